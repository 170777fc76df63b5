/- It is proved that the law CrcSpoilt of package incipitlaw9 returns true at every input: a byte that was changed changes the sum. No conditions. -/
import Derived.Test.YthpeieieibbbgaaMCrcx1
import Derived.Test.YthpeieieibbbgaaQCrc
namespace Go.Proofs.Ythpeieieibbbgaa.Pure
open Go.RowKit Go.Proofs.Ythpeieieibbbgaa.MCrc Go.Proofs.Ythpeieieibbbgaa.QCrc Go.Proofs.YthpeieieibbbgaaW.PrintWords Go.Proofs.YthpeieieibbbgaaW.PrintLast

theorem set_turn (l : List Int) (j : Nat) (x : Nat) (hj : j < l.length) : l.set j (((l.getD j 0).toNat ^^^ x : Nat) : Int) = l.take j ++ turn (l.drop j) [x] := by
  rw [drop_getD l j hj]
  have : l.set j (((l.getD j 0).toNat ^^^ x : Nat) : Int) = l.take j ++ (((l.getD j 0).toNat ^^^ x : Nat) : Int) :: l.drop (j + 1) := by
    rw [List.set_eq_take_append_cons_drop, if_pos hj]
  rw [this]
  cases l.drop (j + 1) <;> rfl

theorem CrcSpoilt : incipitlaw9_CrcSpoilt.Pure := by
  intro l0 a1 a2 h0 _ hb0 h1 h2
  refine Ev.rounds (g := fun k => incipitlaw9_CrcSpoilt.f k l0 a1 a2) ?_
  have bl := (bytes_of_wf hb0).take 300
  have ll : (l0.take 300).length ≤ 300 := by rw [List.length_take]; omega
  have hx : 0 ≤ a2 ∧ a2 < 256 := by
    simp [Lit.wf, IntKind.min, IntKind.max, IntKind.signed, IntKind.bits] at h2; omega
  unfold incipitlaw9_CrcSpoilt.f
  generalize l0.take 300 = l at *
  refine Ev.bind begun_ev (Ev.ite_pos rfl ?_)
  simp only [Option.bind_some]
  have hj : ∀ b : Bool, (b = false → l.length ≠ 0 ∧ a2 ≠ 0 ∧ 0 ≤ a1) → Ev (fun k => incipitlaw9_CrcSpoilt.j0 k l a1 a2 b) true := by
    intro b hb
    refine Ev.succ ?_
    simp only [incipitlaw9_CrcSpoilt.j0]
    cases b with
    | true => exact Ev.ite_pos rfl (Ev.now _)
    | false =>
      obtain ⟨g1, g2, g3⟩ := hb rfl
      refine Ev.ite_neg (by simp) ?_
      simp only [Option.bind_some, List.nil_append, List.length_nil, Nat.zero_add]
      have em : Int.tmod a1 (l.length : Int) = ((a1.toNat % l.length : Nat) : Int) := by
        rw [Int.tmod_eq_emod_of_nonneg g3, Int.natCast_emod, Int.toNat_of_nonneg g3]
      have hlt : a1.toNat % l.length < l.length := Nat.mod_lt _ (by omega)
      rw [em]
      generalize a1.toNat % l.length = j at *
      refine Ev.ite_pos (by omega) (Ev.ite_neg (by omega) (Ev.ite_pos (by omega) (Ev.ite_pos (by omega) ?_)))
      rw [rd_nat, Int.toNat_natCast]
      have hg := bl.getD j
      have ec : Go.bits .xor .u8 (l.getD j 0) a2 = (((l.getD j 0).toNat ^^^ a2.toNat : Nat) : Int) := by
        have := xor8 (a := (l.getD j 0).toNat) (b := a2.toNat) (by omega) (by omega)
        rwa [Int.toNat_of_nonneg hg.1, Int.toNat_of_nonneg hx.1] at this
      have bt : Bytes (l.take j ++ turn (l.drop j) [a2.toNat]) := (bl.take j).append (turn_bytes _ _ (fun c hc => bl c (List.mem_of_mem_drop hc)) (by intro y hy; simp at hy; omega))
      have lt : (l.take j ++ turn (l.drop j) [a2.toNat]).length ≤ 300 := by
        rw [← set_turn l j a2.toNat hlt, List.length_set]; exact ll
      rw [ec, set_turn l j a2.toNat hlt]
      refine Ev.bind (Sum_ev bl (by omega)) (Ev.bind (Sum_ev bt (by omega)) ?_)
      have hne := sum_turn_ne (a := l.take j) (l := l.drop j) (ys := [a2.toNat]) (bl.take j) (fun c hc => bl c (List.mem_of_mem_drop hc)) (by simp) (by intro y hy; simp at hy; omega) ⟨a2.toNat, by simp, by omega⟩ (by simp; omega)
      rw [List.take_append_drop] at hne
      have : ((sum l : Int) != (sum (l.take j ++ turn (l.drop j) [a2.toNat]) : Int)) = true := by
        rw [bne_iff_ne]; intro h; exact hne (by omega)
      rw [this]
      exact Ev.now _
  by_cases c1 : (l.length : Int) = 0
  · exact Ev.ite_pos c1 (hj true (fun h => by cases h))
  · refine Ev.ite_neg c1 ?_
    by_cases c2 : a2 = 0
    · exact Ev.ite_pos c2 (hj true (fun h => by cases h))
    · exact Ev.ite_neg c2 (hj _ (fun h => ⟨by omega, c2, by have := of_decide_eq_false h; omega⟩))

end Go.Proofs.Ythpeieieibbbgaa.Pure
