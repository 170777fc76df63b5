/- It is proved that the law RecordsLaid of package incipitlaw11 returns true at every input: records are laid into blocks as the document says, and read again. No conditions. -/
import Derived.Test.YtcijcfdllfaghaaMRecx6
import Derived.Test.YtcijcfdllfaghaaQRecRecLaid
namespace Go.Proofs.Ytcijcfdllfaghaa.Pure
open Go.RowKit Go.Proofs.Ytcijcfdllfaghaa.MRec Go.Proofs.Ytcijcfdllfaghaa.QRec Go.Proofs.YtcijcfdllfaghaaW.PrintWords Go.Proofs.YtcijcfdllfaghaaW.PrintLast Go.Proofs.YtcijcfdllfaghaaW.PrintMore
set_option linter.unusedVariables false
set_option linter.unusedSimpArgs false
theorem laid_l0 (R : List (List Int)) (hR : Recs R) (hl : R.length ≤ 20) (d : Nat) : ∀ i : Nat, R.length - i = d → i ≤ R.length → Ev (fun k => incipitlaw11_RecordsLaid.l0 k (lay 0 R) R (lay 0 (R.take i)) (i : Int)) true := by
  induction d with
  | zero =>
    intro i hd hi
    refine Ev.succ ?_
    simp only [incipitlaw11_RecordsLaid.l0]
    refine Ev.ite_neg (by omega) ?_
    rw [List.take_of_length_le (by omega)]
    have hlog := lay_le R 0 hR
    refine Ev.bind (Read_whole hR.read (lay_bytes R 0 hR) (by omega) (by omega)) (Ev.ite_pos rfl ?_)
    exact Ev.bind (same_ev (l := R) (by omega)) (Ev.ite_pos rfl (Ev.ite_pos rfl (Ev.now _)))
  | succ d ih =>
    intro i hd hi
    refine Ev.succ ?_
    simp only [incipitlaw11_RecordsLaid.l0]
    refine Ev.ite_pos (by omega) (Ev.ite_pos (by omega) ?_)
    have hg := hR.getD i
    have hlog := lay_le (R.take i) 0 (hR.take i)
    rw [List.length_take] at hlog
    rw [rd_L1_nat]
    refine Ev.bind (Append_ev hg.1 (by omega)) ?_
    have ha := app_le (lay 0 (R.take i)).length (R.getD i []) true
    refine Ev.ite_pos (by omega) ?_
    rw [wrap64_id (by omega) (by omega), ← lay_snoc, ← take_snoc R i (by omega)]
    exact ih (i + 1) (by omega) (by omega)
theorem RecordsLaid : incipitlaw11_RecordsLaid.Pure := by
  intro l0 l1 hl0 hl0' _ _ _ hb1
  refine Ev.rounds (g := fun k => incipitlaw11_RecordsLaid.f k l0 l1) ?_
  unfold incipitlaw11_RecordsLaid.f
  refine Ev.bind begun_ev (Ev.ite_pos rfl ?_)
  obtain ⟨R, h1, h2, h3⟩ := Laid_ev (n := 10) (by omega) (show l0.length ≤ 4611686018427387904 by omega) ((bytes_of_wf hb1).take 300) (by rw [List.length_take]; omega)
  refine Ev.bind h3 ?_
  have := laid_l0 R h1 (by omega) _ 0 rfl (by omega)
  exact this
end Go.Proofs.Ytcijcfdllfaghaa.Pure
