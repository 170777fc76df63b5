/- It is proved that the law RecordsInside of package incipitlaw11 returns true at every input: a record may hold what looks like records; cut within it, it is cut off, and what it holds is nothing. No conditions. -/
import Derived.Test.YtcijcfdllfaghaaMRecx7
import Derived.Test.YtcijcfdllfaghaaQRecRecBegun
namespace Go.Proofs.Ytcijcfdllfaghaa.Pure
open Go.RowKit Go.Proofs.Ytcijcfdllfaghaa.MRec Go.Proofs.Ytcijcfdllfaghaa.QRec Go.Proofs.YtcijcfdllfaghaaW.PrintWords Go.Proofs.YtcijcfdllfaghaaW.PrintLast Go.Proofs.YtcijcfdllfaghaaW.PrintMore
set_option linter.unusedVariables false
set_option linter.unusedSimpArgs false
theorem inner_bytes : Bytes [105, 110, 110, 101, 114] := by
  intro c hc
  simp only [List.mem_cons, List.not_mem_nil, or_false] at hc
  omega
theorem inside_l0 (n : Nat) (a1 : Int) (hn : n ≤ 20) (ha : -9223372036854775808 ≤ a1 ∧ a1 ≤ 9223372036854775807) (d : Nat) : ∀ (i : Nat) (x : List Int), n - i = d → i ≤ n → Bytes x → x.length ≤ 161 * i →
    Ev (fun k => incipitlaw11_RecordsInside.l0 k (n : Int) a1 x (i : Int)) true := by
  induction d with
  | zero =>
    intro i x hd hi hb hx
    refine Ev.succ ?_
    simp only [incipitlaw11_RecordsInside.l0]
    refine Ev.ite_neg (by omega) ?_
    have hlen := app_le 0 x true
    have hab := app_bytes _ 0 x true rfl hb
    refine Ev.bind (Append0_ev hb (by omega)) ?_
    generalize hA : app 0 x true = A at *
    by_cases c1 : a1 < 1
    · exact Ev.ite_pos c1 (Ev.now _)
    refine Ev.ite_neg c1 ?_
    by_cases c2 : a1 > (A.length : Int)
    · exact Ev.ite_pos c2 (Ev.now _)
    refine Ev.ite_neg c2 ?_
    obtain ⟨m, rfl⟩ := Int.eq_ofNat_of_zero_le (show 0 ≤ a1 by omega)
    have ew : wrap64 ((A.length : Int) - (m : Int)) = ((A.length - m : Nat) : Int) := by rw [wrap64_id (by omega) (by omega)]; omega
    simp only [ew]
    refine Ev.ite_pos (by omega) (Ev.ite_pos (by omega) ?_)
    rw [Int.toNat_natCast]
    have hr := Read_part (recs := []) (b := x) (L := A.take (A.length - m)) (c := A.length - m) (fun b hb => by cases hb) hb (by omega) (hab.take _) (by rw [List.length_take]; omega) (by simp) (by simp [lay, hA]) (by simp only [lay, List.length_nil, hA]; omega)
    refine Ev.bind hr (Ev.ite_pos rfl (Ev.ite_pos (by simp) ?_))
    simp only [lay, List.length_nil]
    exact Ev.now _
  | succ d ih =>
    intro i x hd hi hb hx
    refine Ev.succ ?_
    simp only [incipitlaw11_RecordsInside.l0]
    refine Ev.ite_pos (by omega) ?_
    have hlen := app_le 0 [105, 110, 110, 101, 114] true
    simp only [List.length_cons, List.length_nil] at hlen
    refine Ev.bind (Append0_ev inner_bytes (by simp)) (Ev.ite_pos (by omega) ?_)
    rw [wrap64_id (by omega) (by omega)]
    exact ih (i + 1) _ (by omega) (by omega) (hb.append (app_bytes _ 0 _ true rfl inner_bytes)) (by rw [List.length_append]; omega)
theorem RecordsInside : incipitlaw11_RecordsInside.Pure := by
  intro a0 a1 h0 h1
  refine Ev.rounds (g := fun k => incipitlaw11_RecordsInside.f k a0 a1) ?_
  simp [Lit.wf, IntKind.min, IntKind.max, IntKind.signed, IntKind.bits] at h0 h1
  unfold incipitlaw11_RecordsInside.f
  refine Ev.bind begun_ev (Ev.ite_pos rfl ?_)
  by_cases c : a0 < 1
  · refine Ev.ite_pos c (Ev.succ ?_)
    simp only [incipitlaw11_RecordsInside.j0]
    exact Ev.ite_pos trivial (Ev.now _)
  · refine Ev.ite_neg c (Ev.succ ?_)
    simp only [incipitlaw11_RecordsInside.j0]
    by_cases c2 : a0 > 20
    · exact Ev.ite_pos (by simpa using c2) (Ev.now _)
    · refine Ev.ite_neg (by simpa using c2) ?_
      obtain ⟨n, rfl⟩ := Int.eq_ofNat_of_zero_le (show 0 ≤ a0 by omega)
      exact inside_l0 n a1 (by omega) (by omega) _ 0 [] rfl (by omega) (by intro c hc; cases hc) (by simp)
end Go.Proofs.Ytcijcfdllfaghaa.Pure
