import Derived.Test.YtoglanahjlfihaaHBlk9
import Derived.Test.YtoglanahjlfihaaQBlkGetPutV
namespace Go.Proofs.Ytoglanahjlfihaa.QBlk
open Go.RowKit Go.Proofs.Ytoglanahjlfihaa.MBlk Go.Proofs.YtoglanahjlfihaaW.PrintWords Go.Proofs.YtoglanahjlfihaaW.PrintLast Go.Proofs.YtoglanahjlfihaaW.PrintMore
set_option linter.unusedVariables false
set_option linter.unusedSimpArgs false
/-! Rows laid and read again. -/
theorem bytesOf_bytes (s : ByteArray) : Bytes (bytesOf s) := by
  intro c hc
  unfold bytesOf at hc
  obtain ⟨b, _, rfl⟩ := List.mem_map.1 hc
  have := b.toNat_lt
  omega
theorem strOf_bytesOf (s : ByteArray) : strOfNums (bytesOf s) = s := by
  apply ByteArray.ext
  apply Array.toList_inj.1
  unfold strOfNums bytesOf
  rw [List.map_map]
  have : ((fun n : Int => UInt8.ofNat n.toNat) ∘ fun b : UInt8 => (b.toNat : Int)) = id := by
    funext b
    simp
  rw [this, List.map_id]
theorem bytesOf_strOf {l : List Int} (h : Bytes l) : bytesOf (strOfNums l) = l := by
  unfold strOfNums bytesOf
  rw [List.toList_toArray, List.map_map]
  refine (List.map_congr_left (fun x hx => ?_)).trans (List.map_id l)
  obtain ⟨h0, h1⟩ := h x hx
  show ((UInt8.ofNat x.toNat).toNat : Int) = x
  rw [UInt8.toNat_ofNat']
  omega
theorem bytesOf_inj {a b : ByteArray} (h : bytesOf a = bytesOf b) : a = b := by rw [← strOf_bytesOf a, h, strOf_bytesOf]
theorem bytesOf_app (a b : ByteArray) : bytesOf (a ++ b) = bytesOf a ++ bytesOf b := by
  unfold bytesOf
  rw [ByteArray.data_append, Array.toList_append, List.map_append]
theorem bytesOf_to (k : ByteArray) (n : Nat) : bytesOf (k.extract 0 n) = (bytesOf k).take n := by
  unfold bytesOf
  rw [ByteArray.data_extract, Array.toList_extract, List.extract_eq_take_drop, List.drop_zero, Nat.sub_zero, List.map_take]
theorem cpl_take : ∀ a b : List Int, a.take (cpl a b) = b.take (cpl a b)
  | [], b => by simp [cpl]
  | _ :: _, [] => by simp [cpl]
  | x :: a, y :: b => by
    unfold cpl
    split
    · rename_i h; subst h; simp only [List.take_succ_cons]; rw [cpl_take a b]
    · simp
theorem sh_le (s : St) (k : ByteArray) : s.sh k ≤ s.last.size ∧ s.sh k ≤ k.size := by
  unfold St.sh
  split
  · omega
  · have := cpl_le (bytesOf s.last) (bytesOf k)
    rwa [bytesOf_length, bytesOf_length] at this
theorem sh_take (s : St) (k : ByteArray) : (bytesOf s.last).take (s.sh k) = (bytesOf k).take (s.sh k) := by
  unfold St.sh
  split
  · simp
  · exact cpl_take _ _
/-- What a row comes to. -/
def chunk (s : St) (r : S68) : List Int := (put (s.sh r.f0) ++ put (r.f0.size - s.sh r.f0) ++ put r.f1.size) ++ (bytesOf r.f0).drop (s.sh r.f0) ++ bytesOf r.f1
def chunks : St → List S68 → List Int
  | _, [] => []
  | s, r :: t => chunk s r ++ chunks (addT s r.f0 r.f1) t
/-- All rows added. -/
def addTs : St → List S68 → St
  | s, [] => s
  | s, r :: t => addTs (addT s r.f0 r.f1) t
theorem addTs_b : ∀ (s : St) (l : List S68), (addTs s l).b = s.b ++ chunks s l
  | s, [] => by simp [addTs, chunks]
  | s, r :: t => by
    rw [addTs, chunks, addTs_b]
    simp only [addT, chunk, List.append_assoc]
theorem addTs_p : ∀ (s : St) (l : List S68), s.p.length % 4 = 0 → (addTs s l).p.length % 4 = 0
  | s, [], h => h
  | s, r :: t, h => by
    rw [addTs]
    refine addTs_p _ t ?_
    simp only [addT]
    split
    · rw [List.length_append, fix_length]; omega
    · exact h
theorem rd1_put {n L : Nat} {rest : List Int} (h : n < 18446744073709551616) (hb : n ≤ (put n ++ rest).length + L) : rd1 (put n ++ rest) L = some ((n : Int), rest) := by
  unfold rd1
  rw [get_put h rest]
  have := put_pos h
  simp only
  rw [if_neg (by omega), if_neg (by omega), Int.toNat_natCast, List.drop_left]
theorem rdR_chunk (s : St) (r : S68) (rest : List Int) (acc : List S68) (f : Nat) (hr : Fit r) : rdR (f + 1) (chunk s r ++ rest) s.last acc = rdR f rest r.f0 (acc ++ [r]) := by
  obtain ⟨h1, h2⟩ := hr
  obtain ⟨g1, g2⟩ := sh_le s r.f0
  have ht := sh_take s r.f0
  have hdl : ((bytesOf r.f0).drop (s.sh r.f0)).length = r.f0.size - s.sh r.f0 := by rw [List.length_drop, bytesOf_length]
  have hvl : (bytesOf r.f1).length = r.f1.size := bytesOf_length _
  have e1 : chunk s r ++ rest = put (s.sh r.f0) ++ (put (r.f0.size - s.sh r.f0) ++ (put r.f1.size ++ ((bytesOf r.f0).drop (s.sh r.f0) ++ (bytesOf r.f1 ++ rest)))) := by simp only [chunk, List.append_assoc]
  have hne : chunk s r ++ rest ≠ [] := by
    intro h
    have h3 := congrArg List.length h
    have := put_pos (n := s.sh r.f0) (by omega)
    rw [e1] at h3
    simp only [List.length_append, List.length_nil] at h3
    omega
  have hN : rdN 3 (chunk s r ++ rest) s.last.size [] = some ([((s.sh r.f0 : Nat) : Int), ((r.f0.size - s.sh r.f0 : Nat) : Int), ((r.f1.size : Nat) : Int)], (bytesOf r.f0).drop (s.sh r.f0) ++ (bytesOf r.f1 ++ rest)) := by
    rw [e1, rdN, rd1_put (by omega) (by omega), Option.bind_some, rdN]
    simp only
    rw [rd1_put (by omega) (by simp only [List.length_append]; omega), Option.bind_some, rdN]
    simp only
    rw [rd1_put (by omega) (by simp only [List.length_append]; omega), Option.bind_some, rdN]
    rfl
  rw [rdR, if_neg hne, hN, Option.bind_some]
  simp only [List.getD_cons_zero, List.getD_cons_succ, Int.toNat_natCast]
  rw [if_neg (by omega), if_neg (by simp only [List.length_append]; omega), if_neg (by simp only [List.length_append]; omega)]
  have hk : s.last.extract 0 (s.sh r.f0) ++ strOfNums (((bytesOf r.f0).drop (s.sh r.f0) ++ (bytesOf r.f1 ++ rest)).take (r.f0.size - s.sh r.f0)) = r.f0 := by
    apply bytesOf_inj
    rw [bytesOf_app, bytesOf_to, ht, List.take_left' hdl, bytesOf_strOf ((bytesOf_bytes _).drop _), List.take_append_drop]
  rw [hk]
  congr 1
  · rw [← List.append_assoc, List.drop_left' (by rw [List.length_append]; omega)]
  · congr 2
    rw [← List.append_assoc, List.take_left' (by rw [List.length_append]; omega), List.drop_left' hdl, strOf_bytesOf]
theorem rdR_chunks : ∀ (l : List S68) (s : St) (acc : List S68) (f : Nat), (∀ r ∈ l, Fit r) → (chunks s l).length ≤ f → rdR f (chunks s l) s.last acc = some (acc ++ l)
  | [], s, acc, f, _, _ => by
    simp only [chunks, List.append_nil]
    cases f with
    | zero => rfl
    | succ f => rw [rdR, if_pos rfl]
  | r :: t, s, acc, f, hf, hl => by
    rw [chunks] at hl ⊢
    have hr := hf r (by simp)
    have := put_pos (n := s.sh r.f0) (by have := (sh_le s r.f0).2; have := hr.1; omega)
    rw [List.length_append] at hl
    have hc : 1 ≤ (chunk s r).length := by simp only [chunk, List.length_append]; omega
    obtain ⟨f, rfl⟩ : ∃ f', f = f' + 1 := ⟨f - 1, by omega⟩
    rw [rdR_chunk s r _ _ _ hr]
    have := rdR_chunks t (addT s r.f0 r.f1) (acc ++ [r]) f (fun q hq => hf q (by simp [hq])) (by omega)
    rw [show (addT s r.f0 r.f1).last = r.f0 from rfl] at this
    rw [this, List.append_assoc, List.singleton_append]
theorem eqB_refl (l : List Int) : eqB l l = true := by unfold eqB; exact beq_self_eq_true _
theorem addAll_false : ∀ (l : List S68) (s : St), addAll l (false, s) = (false, s)
  | [], _ => rfl
  | r :: t, s => by rw [addAll]; exact addAll_false t s
theorem addAll_true : ∀ (l : List S68) (s : St), (addAll l (true, s)).1 = true → addAll l (true, s) = (true, addTs s l)
  | [], s, _ => rfl
  | r :: t, s, h => by
    rw [addAll] at h ⊢
    simp only [if_true] at h ⊢
    cases hb : addB s r.f0 with
    | false => rw [hb] at h; simp only [if_false, Bool.false_eq_true] at h; rw [addAll_false] at h; cases h
    | true =>
      rw [hb] at h
      simp only [if_true] at h ⊢
      rw [addAll_true t _ h, addTs]
theorem readS_out (l : List S68) (hf : ∀ r ∈ l, Fit r) (ha : (addAll l (true, St0)).1 = true) (hp : (addTs St0 l).p.length < 4294967296) : readS (addTs St0 l).out = some l := by
  have hb : (addTs St0 l).b = chunks St0 l := by rw [addTs_b]; rfl
  have hp4 := addTs_p St0 l rfl
  obtain ⟨s, hs⟩ : ∃ s, s = addTs St0 l := ⟨_, rfl⟩
  rw [← hs] at hb hp hp4 ⊢
  have hlen : s.out.length = s.b.length + s.p.length + 4 := by simp only [St.out, List.length_append, fix_length]
  have hcnt : cnt s.out = s.p.length / 4 := by
    unfold cnt
    rw [hlen, show s.b.length + s.p.length + 4 - 4 = (s.b ++ s.p).length by rw [List.length_append]; omega, St.out, List.drop_left, List.take_of_length_le (by rw [fix_length]; omega), val256_fix]
    exact Nat.mod_eq_of_lt (by omega)
  have he : s.out.length - 4 * (cnt s.out + 1) = s.b.length := by rw [hcnt, hlen]; omega
  have hro : rowsOf s.out = some l := by
    rw [rowsOf, he, St.out, List.append_assoc, List.take_left, hb]
    have := rdR_chunks l St0 [] _ hf (Nat.le_refl _)
    rw [List.nil_append] at this
    exact this
  rw [readS, if_neg (by omega), if_neg (by rw [hcnt, hlen]; omega), hro]
  simp only [Option.getD_some, Option.isSome_some]
  rw [addAll_true l St0 ha, ← hs, if_pos ⟨rfl, eqB_refl _⟩]
end Go.Proofs.Ytoglanahjlfihaa.QBlk
