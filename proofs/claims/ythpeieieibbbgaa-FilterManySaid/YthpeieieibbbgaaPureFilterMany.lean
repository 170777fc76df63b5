/- It is proved that the law FilterMany of package incipitlaw15 returns true at every input: of many texts none is told not to be there, and a filter has ten bits for each. No conditions. -/
import Derived.Test.YthpeieieibbbgaaMFltx1
import Derived.Test.YthpeieieibbbgaaMFltx2
import Derived.Test.YthpeieieibbbgaaQFltFltBits
namespace Go.Proofs.Ythpeieieibbbgaa.Pure
open Go.RowKit Go.Proofs.Ythpeieieibbbgaa.MFlt Go.Proofs.Ythpeieieibbbgaa.QFlt Go.Proofs.YthpeieieibbbgaaW.PrintWords Go.Proofs.YthpeieieibbbgaaW.PrintLast Go.Proofs.YthpeieieibbbgaaW.PrintMore
set_option linter.unusedVariables false
set_option linter.unusedSimpArgs false
theorem begun_ev : Ev (fun k => incipitlaw15_begun.f k) true := Ev.of incipitlaw15_begun.mono (k := 20) (by decide +kernel)
theorem len_eq : ∀ n, n < 301 → (sizeM n + 1 = wrap64 ((wrap64 ((mx 64 (wrap64 ((wrap64 (Int.tdiv (wrap64 ((wrap64 (10 * ((n : Nat) : Int))) + 7)) 8)) * 8))) / 8)) + 1)) ∧ 8 ≤ sizeM n := by decide +kernel
theorem may_ev (S : Int) (h8 : 8 ≤ S) (hS : S < 100000) (b : List Int) (hl : b.length = (S + 1).toNat) (x : ByteArray) (ps : List Int) (e : Ev (fun k => placesF k x (S * 8)) ps) (hp : ∀ p ∈ ps, 0 ≤ p ∧ p < S * 8) (hb : ∀ p ∈ ps, bitSet b p = true) :
    Ev (fun k => bloom_May.f k (b.set S.toNat 6) x) true := by
  unfold bloom_May.f
  have hlen : (b.set S.toNat 6).length = (S + 1).toNat := by rw [List.length_set]; exact hl
  rw [hlen]
  have e1 : (((S + 1).toNat : Int) - 1) = S := by omega
  have e2 : (S + 1).toNat - 1 = S.toNat := by omega
  rw [e1, e2]
  refine Ev.ite_pos (by omega) (Ev.ite_neg (by omega) ?_)
  rw [List.getD_eq_getElem?_getD, List.getElem?_set_self (by omega), Option.getD_some]
  refine Ev.ite_pos rfl (Ev.bind e ?_)
  refine Ev.same ?_
  congr 1
  rw [List.all_eq_true]
  intro p hpp
  have h1 := hb p hpp
  have h2 := hp p hpp
  unfold bitSet at h1 ⊢
  rw [List.getD_eq_getElem?_getD, List.getElem?_set_ne (by omega), ← List.getD_eq_getElem?_getD]
  exact h1
theorem may_l1 (n : Nat) (hn : n ≤ 300) (l : List ByteArray) (hl : l.length = n) (t : List Int) (h : ∀ x ∈ l, Ev (fun k => bloom_May.f k t x) true) (d : Nat) : ∀ i : Nat, n - i = d → Ev (fun k => incipitlaw15_FilterMany.l1 k (n : Int) l t (i : Int)) true := by
  induction d with
  | zero =>
    intro i hd
    refine Ev.succ ?_
    simp only [incipitlaw15_FilterMany.l1]
    exact Ev.ite_neg (by omega) (Ev.now _)
  | succ d ih =>
    intro i hd
    have hx : rdOf ByteArray.empty l (i : Int) ∈ l := by
      unfold rdOf
      rw [Int.toNat_natCast, List.getD_eq_getElem?_getD, List.getElem?_eq_getElem (by omega)]
      exact List.getElem_mem _
    refine Ev.succ ?_
    simp only [incipitlaw15_FilterMany.l1]
    rw [wrap64_id (n := (i : Int) + 1) (by omega) (by omega)]
    exact Ev.ite_pos (by omega) (Ev.ite_pos (by omega) (Ev.ite_pos (by omega) (Ev.bind (h _ hx) (Ev.ite_pos rfl (ih (i + 1) (by omega))))))
theorem many_l0 (n : Nat) (hn : n ≤ 300) (d : Nat) : ∀ (i : Nat) (l : List ByteArray), n - i = d → i ≤ n → l.length = i → (∀ x ∈ l, x.size < 1000000) → Ev (fun k => incipitlaw15_FilterMany.l0 k (n : Int) l (i : Int)) true := by
  induction d with
  | zero =>
    intro i l hd hi hl hx
    have hin : i = n := by omega
    subst hin
    obtain ⟨hL, h8⟩ := len_eq i (by omega)
    have hS := sizeM_range i (by omega)
    have hSb : sizeM i < 100000 := by unfold sizeM; split <;> omega
    obtain ⟨b', e1, h1, h2, _, h4⟩ := make_ev (sizeM i) (by omega) l (List.replicate (sizeM i + 1).toNat 0) hx (fun x hx => by rw [List.mem_replicate] at hx; omega) (by rw [List.length_replicate]; omega)
    rw [List.length_replicate] at h2
    refine Ev.succ ?_
    simp only [incipitlaw15_FilterMany.l0]
    refine Ev.ite_neg (by omega) (Ev.bind (a := b'.set (sizeM i).toNat 6) ?_ ?_)
    · unfold bloom_Make.f
      rw [hl]
      exact Ev.ite_pos (by omega) (Ev.bind e1 (Ev.now _))
    · rw [← hL]
      refine Ev.ite_pos (by rw [List.length_set, h2]; omega) ?_
      refine may_l1 i hn l hl _ (fun x hxl => ?_) i 0 rfl
      obtain ⟨ps, p1, p2, p3⟩ := h4 x hxl
      exact may_ev (sizeM i) h8 hSb b' h2 x ps p1 p2 p3
  | succ d ih =>
    intro i l hd hi hl hx
    refine Ev.succ ?_
    simp only [incipitlaw15_FilterMany.l0, Option.bind_some]
    rw [wrap64_id (n := (i : Int) + 1) (by omega) (by omega)]
    refine Ev.ite_pos (by omega) (Ev.ite_pos (by rw [strOfNums_size]; simp) (Ev.ite_pos (by omega) ?_))
    refine ih (i + 1) _ (by omega) (by omega) (by rw [List.length_append, List.length_singleton, hl]) (fun x h => ?_)
    rcases List.mem_append.1 h with h | h
    · exact hx x h
    · rw [List.mem_singleton] at h
      subst h
      rw [ByteArray.size_append, strOfNums_size]
      show 4 + 2 < 1000000
      omega
theorem FilterMany : incipitlaw15_FilterMany.Pure := by
  intro a _
  refine Ev.rounds (g := fun k => incipitlaw15_FilterMany.f k a) ?_
  unfold incipitlaw15_FilterMany.f
  refine Ev.bind begun_ev (Ev.ite_pos rfl ?_)
  have yes : Ev (fun k => incipitlaw15_FilterMany.j0 k a true) true := by
    refine Ev.succ ?_
    simp only [incipitlaw15_FilterMany.j0]
    exact Ev.ite_pos trivial (Ev.now _)
  by_cases c0 : a < 0
  · exact Ev.ite_pos c0 yes
  · refine Ev.ite_neg c0 ?_
    by_cases c1 : a > 300
    · rw [decide_eq_true c1]; exact yes
    · rw [decide_eq_false c1]
      refine Ev.succ ?_
      simp only [incipitlaw15_FilterMany.j0]
      obtain ⟨n, rfl⟩ : ∃ n : Nat, a = (n : Int) := ⟨a.toNat, by omega⟩
      exact Ev.ite_neg (by simp) (many_l0 n (by omega) n 0 [] rfl (Nat.zero_le _) rfl (fun x hx => by cases hx))
end Go.Proofs.Ythpeieieibbbgaa.Pure
