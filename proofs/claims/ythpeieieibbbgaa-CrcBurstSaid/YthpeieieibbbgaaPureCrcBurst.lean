/- It is proved that the law CrcBurst of package incipitlaw9 returns true at every input: up to four bytes behind one another that were changed change the sum. No conditions. -/
import Derived.Test.YthpeieieibbbgaaMCrcx2
import Derived.Test.YthpeieieibbbgaaQCrc
namespace Go.Proofs.Ythpeieieibbbgaa.Pure
open Go.RowKit Go.Proofs.Ythpeieieibbbgaa.MCrc Go.Proofs.Ythpeieieibbbgaa.QCrc Go.Proofs.YthpeieieibbbgaaW.PrintWords Go.Proofs.YthpeieieibbbgaaW.PrintLast

theorem turn_length : ∀ (l : List Int) (ys : List Nat), (turn l ys).length = l.length
  | [], [] => rfl
  | [], _ :: _ => rfl
  | _ :: _, [] => rfl
  | c :: t, y :: r => by simp [turn, turn_length t r]

theorem turn_nil (l : List Int) : turn l [] = l := by cases l <;> rfl
theorem turn_snoc : ∀ (i : Nat) (l : List Int) (ys : List Nat), i < ys.length → ys.length ≤ l.length →
    turn l (ys.take (i + 1)) = (turn l (ys.take i)).set i (((l.getD i 0).toNat ^^^ ys.getD i 0 : Nat) : Int) ∧ (turn l (ys.take i)).getD i 0 = l.getD i 0
  | _, _, [], h, _ => by simp at h
  | _, [], _ :: _, _, h => by simp at h
  | 0, c :: t, y :: r, _, _ => by cases t <;> simp [turn]
  | i + 1, c :: t, y :: r, h, hl => by
    have := turn_snoc i t r (by simpa using h) (by simpa using hl)
    simp only [List.take_succ_cons, turn, List.set_cons_succ, List.getD_cons_succ]
    exact ⟨by rw [this.1], this.2⟩

def nats (x : List Int) : List Nat := x.map Int.toNat
theorem nats_getD (x : List Int) (i : Nat) : (nats x).getD i 0 = (x.getD i 0).toNat := by
  unfold nats
  rw [List.getD_eq_getElem?_getD, List.getD_eq_getElem?_getD, List.getElem?_map]
  cases x[i]? <;> rfl

section
variable (l x : List Int) (bl : Bytes l) (bx : Bytes x) (ll : l.length ≤ 200) (lx : x.length ≤ 4)
include bl bx ll lx

theorem Burst_l1 (at_ : Nat) (hat : at_ + x.length ≤ l.length) (hn : ∃ y ∈ nats x, y ≠ 0) (d : Nat) : ∀ (i : Nat), x.length - i = d → i ≤ x.length →
    Ev (fun k => incipitlaw9_CrcBurst.l1 k l (at_ : Int) x (l.take at_ ++ turn (l.drop at_) ((nats x).take i)) (i : Int)) true := by
  have by_ : ∀ y ∈ nats x, y < 256 := by
    intro y hy
    obtain ⟨c, hc, rfl⟩ := List.mem_map.1 hy
    have := bx c hc
    omega
  have ly : (nats x).length = x.length := by simp [nats]
  induction d with
  | zero =>
    intro i hd hi
    refine Ev.succ ?_
    simp only [incipitlaw9_CrcBurst.l1]
    refine Ev.ite_neg (by omega) ?_
    rw [List.take_of_length_le (l := nats x) (by omega)]
    have bt : Bytes (l.take at_ ++ turn (l.drop at_) (nats x)) := (bl.take at_).append (turn_bytes _ _ (fun c hc => bl c (List.mem_of_mem_drop hc)) by_)
    have lt : (l.take at_ ++ turn (l.drop at_) (nats x)).length ≤ 200 := by
      rw [List.length_append, turn_length, List.length_take, List.length_drop]; omega
    refine Ev.bind (Sum_ev bl (by omega)) (Ev.bind (Sum_ev bt (by omega)) ?_)
    have hne := sum_turn_ne (a := l.take at_) (l := l.drop at_) (ys := nats x) (bl.take at_) (fun c hc => bl c (List.mem_of_mem_drop hc)) (by omega) by_ hn (by rw [List.length_drop]; omega)
    rw [List.take_append_drop] at hne
    have : ((sum l : Int) != (sum (l.take at_ ++ turn (l.drop at_) (nats x)) : Int)) = true := by
      rw [bne_iff_ne]; intro h; exact hne (by omega)
    rw [this]
    exact Ev.now _
  | succ d ih =>
    intro i hd hi
    have hlt : i < x.length := by omega
    have lt : (l.take at_ ++ turn (l.drop at_) ((nats x).take i)).length = l.length := by
      rw [List.length_append, turn_length, List.length_take, List.length_drop]; omega
    refine Ev.succ ?_
    simp only [incipitlaw9_CrcBurst.l1]
    rw [wrap64_id (n := (at_ : Int) + i) (by omega) (by omega), wrap64_id (n := (i : Int) + 1) (by omega) (by omega), lt]
    refine Ev.ite_pos (by omega) (Ev.ite_pos (by omega) (Ev.ite_pos (by omega) (Ev.ite_pos (by omega) ?_)))
    obtain ⟨e1, e2⟩ := turn_snoc i (l.drop at_) (nats x) (by omega) (by rw [List.length_drop]; omega)
    have er : rd (l.take at_ ++ turn (l.drop at_) ((nats x).take i)) ((at_ : Int) + i) = (l.drop at_).getD i 0 := by
      rw [show (at_ : Int) + i = ((at_ + i : Nat) : Int) by omega, rd_nat, ← e2, List.getD_eq_getElem?_getD, List.getD_eq_getElem?_getD, List.getElem?_append_right (by rw [List.length_take]; omega)]
      rw [List.length_take, Nat.min_eq_left (by omega), show at_ + i - at_ = i by omega]
    have hgl : 0 ≤ (l.drop at_).getD i 0 ∧ (l.drop at_).getD i 0 < 256 := Bytes.getD (fun c hc => bl c (List.mem_of_mem_drop hc)) i
    have hgx := bx.getD i
    have ec : Go.bits .xor .u8 ((l.drop at_).getD i 0) (x.getD i 0) = ((((l.drop at_).getD i 0).toNat ^^^ (nats x).getD i 0 : Nat) : Int) := by
      have := xor8 (a := ((l.drop at_).getD i 0).toNat) (b := (x.getD i 0).toNat) (by omega) (by omega)
      rw [Int.toNat_of_nonneg hgl.1, Int.toNat_of_nonneg hgx.1] at this
      rw [this, nats_getD]
    rw [er, rd_nat, ec]
    have es : (l.take at_ ++ turn (l.drop at_) ((nats x).take i)).set ((at_ : Int) + i).toNat ((((l.drop at_).getD i 0).toNat ^^^ (nats x).getD i 0 : Nat) : Int) = l.take at_ ++ turn (l.drop at_) ((nats x).take (i + 1)) := by
      rw [e1, show ((at_ : Int) + i).toNat = at_ + i by omega, List.set_append_right _ _ (by rw [List.length_take]; omega), List.length_take, Nat.min_eq_left (by omega), show at_ + i - at_ = i by omega]
    rw [es]
    exact ih (i + 1) (by omega) (by omega)

theorem Burst_j1 (a1 : Int) (b : Bool) (h : b = false → 0 ≤ a1 ∧ a1 ≤ (l.length : Int) - x.length ∧ ∃ y ∈ nats x, y ≠ 0) : Ev (fun k => incipitlaw9_CrcBurst.j1 k l a1 x b) true := by
  refine Ev.succ ?_
  simp only [incipitlaw9_CrcBurst.j1]
  cases b with
  | true => exact Ev.ite_pos rfl (Ev.now _)
  | false =>
    obtain ⟨g1, g2, g3⟩ := h rfl
    refine Ev.ite_neg (by simp) (Ev.ite_pos (by simp; omega) ?_)
    obtain ⟨n, rfl⟩ := Int.eq_ofNat_of_zero_le g1
    have := Burst_l1 l x bl bx ll lx n (by omega) g3 _ 0 rfl (by omega)
    have e : l.take n ++ turn (l.drop n) ((nats x).take 0) = [] ++ l := by
      rw [List.take_zero, turn_nil, List.take_append_drop]; rfl
    rw [e] at this
    exact this

theorem Burst_l0 (a1 : Int) (d : Nat) : ∀ (i : Nat) (f : Bool), x.length - i = d → i ≤ x.length → (f = true → ∃ y ∈ nats x, y ≠ 0) → Ev (fun k => incipitlaw9_CrcBurst.l0 k l a1 x f (i : Int)) true := by
  induction d with
  | zero =>
    intro i f hd hi hf
    refine Ev.succ ?_
    simp only [incipitlaw9_CrcBurst.l0]
    refine Ev.ite_neg (by omega) ?_
    by_cases c1 : a1 < 0
    · exact Ev.ite_pos c1 (Burst_j1 l x bl bx ll lx a1 true (fun h => by cases h))
    · refine Ev.ite_neg c1 ?_
      rw [wrap64_id (by omega) (by omega)]
      by_cases c2 : a1 > (l.length : Int) - x.length
      · exact Ev.ite_pos c2 (Burst_j1 l x bl bx ll lx a1 true (fun h => by cases h))
      · exact Ev.ite_neg c2 (Burst_j1 l x bl bx ll lx a1 (!f) (fun h => ⟨by omega, by omega, hf (by simpa using h)⟩))
  | succ d ih =>
    intro i f hd hi hf
    have hlt : i < x.length := by omega
    refine Ev.succ ?_
    simp only [incipitlaw9_CrcBurst.l0]
    rw [wrap64_id (n := (i : Int) + 1) (by omega) (by omega)]
    refine Ev.ite_pos (by omega) ?_
    cases f with
    | true => exact Ev.ite_pos rfl (ih (i + 1) true (by omega) (by omega) hf)
    | false =>
      refine Ev.ite_neg (by simp) (Ev.ite_pos (by omega) ?_)
      rw [rd_nat]
      refine ih (i + 1) _ (by omega) (by omega) (fun h => ?_)
      have hne : x.getD i 0 ≠ 0 := bne_iff_ne.1 h
      have hg := bx.getD i
      refine ⟨(x.getD i 0).toNat, ?_, by omega⟩
      unfold nats
      refine List.mem_map.2 ⟨x.getD i 0, ?_, rfl⟩
      rw [List.getD_eq_getElem?_getD, List.getElem?_eq_getElem hlt]
      exact List.getElem_mem hlt
end

theorem CrcBurst : incipitlaw9_CrcBurst.Pure := by
  intro l0 a1 l2 _ _ hb0 _ _ _ hb2
  refine Ev.rounds (g := fun k => incipitlaw9_CrcBurst.f k l0 a1 l2) ?_
  unfold incipitlaw9_CrcBurst.f
  refine Ev.bind begun_ev (Ev.ite_pos rfl ?_)
  exact Burst_l0 (l0.take 200) (l2.take 4) ((bytes_of_wf hb0).take 200) ((bytes_of_wf hb2).take 4) (by rw [List.length_take]; omega) (by rw [List.length_take]; omega) a1 _ 0 false rfl (by omega) (fun h => by cases h)

end Go.Proofs.Ythpeieieibbbgaa.Pure
