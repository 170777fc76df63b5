/- It is proved that the law EditEnds of package incipitlaw19 returns true at every input: which edits may be, at the ends of each of their numbers. No conditions. -/
import Derived.Test.YtoglanahjlfihaaMEdtx0
import Derived.Test.YtoglanahjlfihaaMEdtx3
import Derived.Test.YtoglanahjlfihaaMEdtx6
import Derived.Test.YtoglanahjlfihaaMEdtx7
import Derived.Test.YtoglanahjlfihaaMEdtx8
import Derived.Test.YtoglanahjlfihaaQEdtEditRT
namespace Go.Proofs.Ytoglanahjlfihaa.Pure
open Go.RowKit Go.Proofs.Ytoglanahjlfihaa.MEdt Go.Proofs.Ytoglanahjlfihaa.QEdt Go.Proofs.YtoglanahjlfihaaW.PrintWords Go.Proofs.YtoglanahjlfihaaW.PrintLast Go.Proofs.YtoglanahjlfihaaW.PrintMore
set_option linter.unusedVariables false
set_option linter.unusedSimpArgs false
theorem begun_ev : Ev (fun k => incipitlaw19_begun.f k) true := Ev.of incipitlaw19_begun.mono (k := 30) (by decide +kernel)
theorem eqFiles_l0 (fs : List S55) (hl : fs.length < 1000000) (d : Nat) : ∀ i : Nat, fs.length - i = d → Ev (fun k => incipitref12_EqFiles.l0 k fs fs (i : Int)) true := by
  induction d with
  | zero =>
    intro i hd
    refine Ev.succ ?_
    simp only [incipitref12_EqFiles.l0]
    exact Ev.ite_neg (by omega) (Ev.now _)
  | succ d ih =>
    intro i hd
    have en : wrap64 ((i : Int) + 1) = ((i + 1 : Nat) : Int) := by rw [wrap64_id (by omega) (by omega)]; omega
    refine Ev.succ ?_
    simp only [incipitref12_EqFiles.l0, en]
    exact Ev.ite_pos (by omega) (Ev.ite_pos (by omega) (Ev.ite_pos (by omega) (Ev.ite_pos trivial (Ev.ite_pos trivial (Ev.ite_pos trivial (Ev.ite_pos trivial (Ev.ite_pos trivial (ih (i + 1) (by omega)))))))))
theorem eqEdit_ev (a0 a1 a2 : Int) (fs : List S55) (hl : fs.length < 1000000) : Ev (fun k => incipitref12_EqEdit.f k a0 a1 a2 fs [] a0 a1 a2 fs []) true := by
  unfold incipitref12_EqEdit.f
  refine Ev.ite_pos rfl (Ev.ite_pos rfl (Ev.ite_pos rfl ?_))
  have hf : Ev (fun k => incipitref12_EqFiles.f k fs fs) true := by
    unfold incipitref12_EqFiles.f
    exact Ev.ite_pos rfl (eqFiles_l0 fs hl fs.length 0 rfl)
  refine Ev.bind hf (Ev.ite_pos rfl (Ev.succ ?_))
  simp only [incipitref12_EqEdit.j0]
  refine Ev.ite_neg (by simp) (Ev.succ ?_)
  simp only [incipitref12_EqEdit.l0]
  exact Ev.ite_neg (by simp) (Ev.now _)
theorem ends_j0 (may : Bool) (a0 a1 a2 : Int) (f : S55) (h : may = okB a0 a1 a2 [f] []) : Ev (fun k => incipitlaw19_EditEnds.j0 k may a0 a1 a2 [f]) true := by
  refine Ev.succ ?_
  simp only [incipitlaw19_EditEnds.j0]
  cases may with
  | true =>
    refine Ev.bind (Encode_ev a0 a1 a2 [f] [] h.symm) (Ev.ite_pos rfl (Ev.bind (Decode_ev a0 a1 a2 [f] [] h.symm) ?_))
    exact Ev.ite_pos rfl (Ev.ite_pos rfl (Ev.bind (eqEdit_ev a0 a1 a2 [f] (by simp)) (Ev.now _)))
  | false =>
    have hc := Check_ev a0 a1 a2 [f] [] (by simp) (by simp)
    rw [← h, if_neg (by simp)] at hc
    refine Ev.bind (Encode_no a0 a1 a2 [f] [] (by simp) (by simp) h.symm) (Ev.ite_neg (by simp) (Ev.ite_pos rfl (Ev.ite_pos rfl (Ev.bind hc ?_))))
    exact Ev.now _
theorem okB_one (a0 a1 a2 a3 a4 a5 : Int) : okB a0 a1 a2 [(⟨a3, a4, a5, (⟨#[97]⟩ : ByteArray), (⟨#[97]⟩ : ByteArray)⟩ : S55)] [] = true ↔ (0 ≤ a0 ∧ a0 ≤ 1125899906842624) ∧ (0 ≤ a1 ∧ a1 ≤ 1125899906842624) ∧ (0 ≤ a2 ∧ a2 ≤ 1125899906842624) ∧ (1 ≤ a3 ∧ a3 ≤ 1125899906842624) ∧ (0 ≤ a4 ∧ a4 ≤ 4) ∧ (0 ≤ a5 ∧ a5 ≤ 16777216) := by
  have e1 : Op.bytesLess (⟨#[97]⟩ : ByteArray).toList (⟨#[97]⟩ : ByteArray).toList = false := by decide +kernel
  have e2 : ((⟨#[97]⟩ : ByteArray).size : Int) ≤ 13000 := by decide
  simp only [okB, fileB, inB, List.all_cons, List.all_nil, Bool.and_true, Bool.and_eq_true, decide_eq_true_eq, e1, Bool.not_false, List.length_singleton, List.length_nil, true_and]
  constructor
  · rintro ⟨⟨h0, h1, h2⟩, _, _, h3, h4, h5, _⟩
    exact ⟨h0, h1, h2, h3, h4, h5⟩
  · rintro ⟨h0, h1, h2, h3, h4, h5⟩
    exact ⟨⟨h0, h1, h2⟩, by decide, by decide, h3, h4, h5, e2, e2⟩
theorem EditEnds : incipitlaw19_EditEnds.Pure := by
  intro a0 a1 a2 a3 a4 a5 _ _ _ _ _ _
  refine Ev.rounds (g := fun k => incipitlaw19_EditEnds.f k a0 a1 a2 a3 a4 a5) ?_
  unfold incipitlaw19_EditEnds.f
  simp only [Option.bind_some]
  refine Ev.bind begun_ev (Ev.ite_pos rfl ?_)
  have hi := okB_one a0 a1 a2 a3 a4 a5
  have no : ¬ ((0 ≤ a0 ∧ a0 ≤ 1125899906842624) ∧ (0 ≤ a1 ∧ a1 ≤ 1125899906842624) ∧ (0 ≤ a2 ∧ a2 ≤ 1125899906842624) ∧ (1 ≤ a3 ∧ a3 ≤ 1125899906842624) ∧ (0 ≤ a4 ∧ a4 ≤ 4) ∧ (0 ≤ a5 ∧ a5 ≤ 16777216)) → Ev (fun k => incipitlaw19_EditEnds.j0 k false a0 a1 a2 [(⟨a3, a4, a5, (⟨#[97]⟩ : ByteArray), (⟨#[97]⟩ : ByteArray)⟩ : S55)]) true := by
    intro h
    refine ends_j0 false a0 a1 a2 _ ?_
    cases hb : okB a0 a1 a2 [(⟨a3, a4, a5, (⟨#[97]⟩ : ByteArray), (⟨#[97]⟩ : ByteArray)⟩ : S55)] [] with
    | false => rfl
    | true => exact absurd (hi.1 hb) h
  by_cases c0 : a0 ≥ 0
  · refine Ev.ite_pos c0 ?_
    by_cases c1 : a0 ≤ 1125899906842624
    · refine Ev.ite_pos c1 ?_
      by_cases c2 : a1 ≥ 0
      · refine Ev.ite_pos c2 ?_
        by_cases c3 : a1 ≤ 1125899906842624
        · refine Ev.ite_pos c3 ?_
          by_cases c4 : a2 ≥ 0
          · refine Ev.ite_pos c4 ?_
            by_cases c5 : a2 ≤ 1125899906842624
            · refine Ev.ite_pos c5 ?_
              by_cases c6 : a3 ≥ 1
              · refine Ev.ite_pos c6 ?_
                by_cases c7 : a3 ≤ 1125899906842624
                · refine Ev.ite_pos c7 ?_
                  by_cases c8 : a4 ≥ 0
                  · refine Ev.ite_pos c8 ?_
                    by_cases c9 : a4 ≤ 4
                    · refine Ev.ite_pos c9 ?_
                      by_cases c10 : a5 ≥ 0
                      · refine Ev.ite_pos c10 (ends_j0 _ a0 a1 a2 _ ?_)
                        by_cases c11 : a5 ≤ 16777216
                        · rw [decide_eq_true c11]
                          exact (hi.2 ⟨⟨c0, c1⟩, ⟨c2, c3⟩, ⟨c4, c5⟩, ⟨c6, c7⟩, ⟨c8, c9⟩, ⟨c10, c11⟩⟩).symm
                        · rw [decide_eq_false c11]
                          cases hb : okB a0 a1 a2 [(⟨a3, a4, a5, (⟨#[97]⟩ : ByteArray), (⟨#[97]⟩ : ByteArray)⟩ : S55)] [] with
                          | false => rfl
                          | true => exact absurd (hi.1 hb).2.2.2.2.2.2 c11
                      · exact Ev.ite_neg c10 (no (fun h => c10 h.2.2.2.2.2.1))
                    · exact Ev.ite_neg c9 (no (fun h => c9 h.2.2.2.2.1.2))
                  · exact Ev.ite_neg c8 (no (fun h => c8 h.2.2.2.2.1.1))
                · exact Ev.ite_neg c7 (no (fun h => c7 h.2.2.2.1.2))
              · exact Ev.ite_neg c6 (no (fun h => c6 h.2.2.2.1.1))
            · exact Ev.ite_neg c5 (no (fun h => c5 h.2.2.1.2))
          · exact Ev.ite_neg c4 (no (fun h => c4 h.2.2.1.1))
        · exact Ev.ite_neg c3 (no (fun h => c3 h.2.1.2))
      · exact Ev.ite_neg c2 (no (fun h => c2 h.2.1.1))
    · exact Ev.ite_neg c1 (no (fun h => c1 h.1.2))
  · exact Ev.ite_neg c0 (no (fun h => c0 h.1.1))
end Go.Proofs.Ytoglanahjlfihaa.Pure
