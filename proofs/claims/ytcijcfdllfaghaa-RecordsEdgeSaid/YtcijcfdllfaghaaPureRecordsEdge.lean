/- It is proved that the law RecordsEdge of package incipitlaw11 returns true at every input: a record of any length laid at any place of a block fills it, and is read again. No conditions. -/
import Derived.Test.YtcijcfdllfaghaaMRecx0
import Derived.Test.YtcijcfdllfaghaaMRecx7
import Derived.Test.YtcijcfdllfaghaaQRecRecBegun
namespace Go.Proofs.Ytcijcfdllfaghaa.Pure
open Go.RowKit Go.Proofs.Ytcijcfdllfaghaa.MRec Go.Proofs.Ytcijcfdllfaghaa.QRec Go.Proofs.YtcijcfdllfaghaaW.PrintWords Go.Proofs.YtcijcfdllfaghaaW.PrintLast Go.Proofs.YtcijcfdllfaghaaW.PrintMore
set_option linter.unusedVariables false
set_option linter.unusedSimpArgs false
theorem bytes_set {l : List Int} (h : Bytes l) (i : Nat) {v : Int} (hv : 0 ≤ v ∧ v < 256) : Bytes (l.set i v) := by
  intro c hc
  rcases List.mem_or_eq_of_mem_set hc with hc | rfl
  · exact h c hc
  · exact hv
theorem zeros_bytes (n : Nat) : Bytes (List.replicate n 0) := fun c hc => by rw [List.mem_replicate] at hc; omega
theorem edge_l0 (m n : Nat) (hm : m ≤ 600) (hn : n ≤ 1200) (d : Nat) : ∀ (i : Nat) (x : List Int), n - i = d → i ≤ n → Bytes x → x.length = n →
    Ev (fun k => incipitlaw11_RecordsEdge.l0 k (m : Int) (n : Int) (app 0 (List.replicate m 0) true) x (i : Int)) true := by
  induction d with
  | zero =>
    intro i x hd hi hb hx
    refine Ev.succ ?_
    simp only [incipitlaw11_RecordsEdge.l0, Option.bind_some]
    refine Ev.ite_neg (by omega) ?_
    have hz := zeros_bytes m
    have hl1 := app_le 0 (List.replicate m 0) true
    rw [List.length_replicate] at hl1
    have hb1 := app_bytes _ 0 _ true rfl hz
    have hl2 := app_le (app 0 (List.replicate m 0) true).length x true
    have hb2 := app_bytes _ (app 0 (List.replicate m 0) true).length x true rfl hb
    have elay : lay 0 [List.replicate m 0, x] = app 0 (List.replicate m 0) true ++ app (app 0 (List.replicate m 0) true).length x true := by simp [lay]
    have hR := Read_whole (recs := [List.replicate m 0, x]) (by
      intro b hb'
      simp only [List.mem_cons, List.not_mem_nil, or_false] at hb'
      rcases hb' with rfl | rfl
      · exact ⟨hz, by rw [List.length_replicate]; omega⟩
      · exact ⟨hb, by omega⟩) (by rw [elay]; exact hb1.append hb2) (by rw [elay, List.length_append]; omega) (by simp)
    rw [elay] at hR
    refine Ev.bind (Append_ev hb (by omega)) (Ev.ite_pos (by omega) (Ev.bind hR (Ev.ite_pos rfl (Ev.ite_pos rfl (Ev.ite_pos (by simp) (Ev.ite_pos (by simp) (Ev.ite_pos ?_ (Ev.ite_pos (by simp) ?_))))))))
    · show ((List.replicate m (0 : Int)).length : Int) = (m : Int)
      rw [List.length_replicate]
    · have : rd_L1 [List.replicate m 0, x] 1 = x := rfl
      rw [this, beq_self_eq_true]
      exact Ev.now _
  | succ d ih =>
    intro i x hd hi hb hx
    refine Ev.succ ?_
    simp only [incipitlaw11_RecordsEdge.l0, Option.bind_some]
    refine Ev.ite_pos (by omega) (Ev.ite_pos (by omega) (Ev.ite_pos (by omega) ?_))
    rw [wrap64_id (n := (i : Int) + 1) (by omega) (by omega)]
    exact ih (i + 1) _ (by omega) (by omega) (bytes_set hb _ ⟨Int.emod_nonneg _ (by decide), Int.emod_lt_of_pos _ (by decide)⟩) (by rw [List.length_set]; exact hx)
theorem edge_true (a0 a1 : Int) : Ev (fun k => incipitlaw11_RecordsEdge.j0 k a0 a1 true) true := by
  refine Ev.succ ?_
  simp only [incipitlaw11_RecordsEdge.j0]
  exact Ev.ite_pos trivial (Ev.now _)
theorem RecordsEdge : incipitlaw11_RecordsEdge.Pure := by
  intro a0 a1 h0 h1
  refine Ev.rounds (g := fun k => incipitlaw11_RecordsEdge.f k a0 a1) ?_
  unfold incipitlaw11_RecordsEdge.f
  refine Ev.bind begun_ev (Ev.ite_pos rfl ?_)
  by_cases c : a0 < 0
  · exact Ev.ite_pos c (edge_true _ _)
  refine Ev.ite_neg c ?_
  by_cases c2 : a0 > 600
  · exact Ev.ite_pos c2 (edge_true _ _)
  refine Ev.ite_neg c2 ?_
  by_cases c3 : a1 < 0
  · exact Ev.ite_pos c3 (edge_true _ _)
  refine Ev.ite_neg c3 ?_
  by_cases c4 : a1 > 1200
  · rw [decide_eq_true c4]; exact edge_true _ _
  rw [decide_eq_false c4]
  obtain ⟨m, rfl⟩ := Int.eq_ofNat_of_zero_le (show 0 ≤ a0 by omega)
  obtain ⟨n, rfl⟩ := Int.eq_ofNat_of_zero_le (show 0 ≤ a1 by omega)
  refine Ev.succ ?_
  simp only [incipitlaw11_RecordsEdge.j0]
  refine Ev.ite_neg (by simp) (Ev.ite_pos (by omega) (Ev.ite_pos (by omega) ?_))
  rw [Int.toNat_natCast, Int.toNat_natCast]
  refine Ev.bind (Append0_ev (zeros_bytes m) (by rw [List.length_replicate]; omega)) (Ev.ite_pos (by omega) (Ev.ite_pos (by omega) ?_))
  exact edge_l0 m n (by omega) (by omega) _ 0 _ rfl (by omega) (zeros_bytes n) (by rw [List.length_replicate])
end Go.Proofs.Ytcijcfdllfaghaa.Pure
