import Derived.Test.YtenmljkddhonmaaHMrg6
import Derived.Laws.EntriesVeiled
namespace Go.Proofs.Ytenmljkddhonmaa.MMrg
open Go.RowKit Go.Proofs.Ytenmljkddhonmaa.QMrg Go.Proofs.YtenmljkddhonmaaW.PrintWords Go.Proofs.YtenmljkddhonmaaW.PrintLast Go.Proofs.YtenmljkddhonmaaW.PrintMore
set_option linter.unusedVariables false
set_option linter.unusedSimpArgs false
set_option maxHeartbeats 8000000 in
set_option maxRecDepth 100000 in
theorem heap_Fix.calls (w0 w : World) (ask : Nat → Value) (m b c : Nat) (q : List L28) (hq : QM w ask m b c q) (hp : 0 < q.length) (hql : q.length < 1000000) (ha : Agree lessH q) (hat : ∀ l ∈ q, l.at_ < 1000000) (hs : Sift (kOf Ln.r q) q.length 0 0) (hB : Below w0.heap.size w0 w) (hb0 : w0.heap.size ≤ b) :
    Calls Try.prog 38 #[.iface 78 (.pointer (some ⟨m, 0, none⟩)), .int .i64 0] w fun e w' => ∃ q', e = .returned (.tuple #[]) ∧ QM w' ask m b c q' ∧ q'.Perm q ∧ HeapFrom (kOf Ln.r q') q'.length 0 ∧ Kept w w' (fun k => k = b) ∧ Below w0.heap.size w0 w' := by
  have mL := mLen hq.cell
  have hcl := heap_down.calls w0 w ask m b c q 0 q.length hq (Nat.le_refl _) (.inl hp) (by omega) hql ha hat hs hB hb0
  have HCL := Aside0.mk hcl
  clear hq ha hat hs hB hcl
  have eL := eLen
  have eD := eDown
  have eU := eUp
  go_enter Try.func38, Try.ntmps38
  go_wp2_with (fail)
  refine (queue_Len.calls w _ _ _).mono ?_
  rintro e w' ⟨rfl, rfl⟩
  clear mL
  go_wp2_with (fail)
  refine HCL.out.mono ?_
  rintro e w2 ⟨q', mv, rfl, h1, h2, h3, h4, h5, h6⟩
  have H1 := Aside0.mk h1
  have H2 := Aside0.mk h2
  have H4 := Aside0.mk h4
  have H5 := Aside0.mk h5
  have H6 := Aside0.mk h6
  clear h1 h2 h3 h4 h5 h6
  cases mv with
  | true =>
    go_wp2_with (fail)
    go_end0
    exact ⟨q', rfl, H1.out, H2.out, by rw [H2.out.length_eq]; exact H4.out, H5.out, H6.out⟩
  | false =>
    go_wp2_with (fail)
    refine (heap_up.calls w2 m).mono ?_
    rintro e w3 ⟨rfl, rfl⟩
    go_wp2_with (fail)
    go_end0
    exact ⟨q', rfl, H1.out, H2.out, by rw [H2.out.length_eq]; exact H4.out, H5.out, H6.out⟩
end Go.Proofs.Ytenmljkddhonmaa.MMrg
