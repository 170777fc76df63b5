import Derived.Test.YtenmljkddhonmaaHMrg5
import Derived.Laws.EntriesVeiled
namespace Go.Proofs.Ytenmljkddhonmaa.MMrg
open Go.RowKit Go.Proofs.Ytenmljkddhonmaa.QMrg Go.Proofs.YtenmljkddhonmaaW.PrintWords Go.Proofs.YtenmljkddhonmaaW.PrintLast Go.Proofs.YtenmljkddhonmaaW.PrintMore
set_option linter.unusedVariables false
set_option linter.unusedSimpArgs false
theorem eDown : ∀ args w, (callFunc 66 args).run Try.prog w = .ok (.enter 66 args) w := enters_of Try.func66 (by kernel_rfl) rfl
theorem eUp : ∀ args w, (callFunc 67 args).run Try.prog w = .ok (.enter 67 args) w := enters_of Try.func67 (by kernel_rfl) rfl
set_option maxHeartbeats 8000000 in
set_option maxRecDepth 100000 in
theorem heap_up.calls (w : World) (m : Nat) : Calls Try.prog 67 #[.iface 78 (.pointer (some ⟨m, 0, none⟩)), .int .i64 0] w fun e w' => e = .returned (.tuple #[]) ∧ w' = w := by
  have hq1 : IntKind.i64.wrap (Int.tdiv (-1) 2) = 0 := by decide
  have hq2 : IntKind.i64.wrap (-1) = -1 := by decide
  go_enter Try.func67, Try.ntmps67
  go_wp2_with (fail)
  go_loopg [1] 1 (fun kq s1 wr => s1 = .int .i64 0 ∧ 0 < kq ∧ wr = w)
  case atStart => exact ⟨rfl, by omega, rfl⟩
  case round =>
    obtain ⟨rfl, hkq, rfl⟩ := hrel
    go_wp2_with (fail)
    go_end0
    exact ⟨rfl, rfl⟩
set_option maxHeartbeats 8000000 in
set_option maxRecDepth 100000 in
theorem heap_Init.calls (w0 w : World) (ask : Nat → Value) (m b c : Nat) (q : List L28) (hq : QM w ask m b c q) (hql : q.length < 1000000) (ha : Agree lessH q) (hat : ∀ l ∈ q, l.at_ < 1000000) (hB : Below w0.heap.size w0 w) (hb0 : w0.heap.size ≤ b) :
    Calls Try.prog 37 #[.iface 78 (.pointer (some ⟨m, 0, none⟩))] w fun e w' => ∃ q', e = .returned (.tuple #[]) ∧ QM w' ask m b c q' ∧ q'.Perm q ∧ HeapFrom (kOf Ln.r q') q'.length 0 ∧ Kept w w' (fun k => k = b) ∧ Below w0.heap.size w0 w' := by
  have mL := mLen hq.cell
  have HQ := Aside0.mk hq
  have HA := Aside0.mk ha
  have HAT := Aside0.mk hat
  have HB := Aside0.mk hB
  clear hq ha hat hB
  have eL := eLen
  have eD := eDown
  have hw1 : IntKind.i64.wrap (((q.length : Int)).tdiv 2) = ((q.length / 2 : Nat) : Int) := by
    rw [Int.tdiv_eq_ediv_of_nonneg (by omega), IntKind.wrap_i64]; omega
  have hw2 : IntKind.i64.wrap (((q.length / 2 : Nat) : Int) - 1) = ((q.length / 2 : Nat) : Int) - 1 := by rw [IntKind.wrap_i64]; omega
  go_enter Try.func37, Try.ntmps37
  go_wp2_with (fail)
  refine (queue_Len.calls w _ _ _).mono ?_
  rintro e w' ⟨rfl, rfl⟩
  clear mL
  go_wp2_with (fail)
  go_loopg [3] (q.length + 1) (fun kq s3 wr => ∃ (j : Nat) (q' : List L28), s3 = .int .i64 ((j : Int) - 1) ∧ j < kq ∧ j ≤ q.length / 2 ∧ Aside0 (q'.length = q.length) ∧ Aside0 (QM wr ask m b c q') ∧ Aside0 (q'.Perm q) ∧ Aside0 (HeapFrom (kOf Ln.r q') q.length j) ∧ Aside0 (Kept w' wr (fun k => k = b)) ∧ Aside0 (Below w0.heap.size w0 wr))
  case atStart => exact ⟨q.length / 2, q, rfl, by omega, Nat.le_refl _, ⟨rfl⟩, HQ, ⟨List.Perm.refl _⟩, ⟨HeapFrom.leaves _ _⟩, ⟨Kept.refl _ _⟩, HB⟩
  case round =>
    clear HQ HB
    obtain ⟨j, q', rfl, hjk, hj2, HL, HQ, HP, HH, HK, HB⟩ := hrel
    cases gk with
    | zero => exact absurd hjk (Nat.not_lt_zero _)
    | succ kk =>
    by_cases hj0 : j = 0
    · subst hj0
      go_wp2_with (fail)
      go_end0
      exact ⟨q', rfl, HQ.out, HP.out, by rw [HL.out]; exact HH.out, HK.out, HB.out⟩
    · obtain ⟨i, rfl⟩ : ∃ i, j = i + 1 := ⟨j - 1, by omega⟩
      have e1 : ((i + 1 : Nat) : Int) - 1 = (i : Int) := by push_cast; omega
      have hge : ((0 : Int) ≤ (i : Int)) = True := eq_true (by omega)
      have hw3 : IntKind.i64.wrap ((i : Int) - 1) = (i : Int) - 1 := by rw [IntKind.wrap_i64]; omega
      rw [e1]
      clear e1
      have hcl := heap_down.calls w0 wr ask m b c q' i q.length HQ.out (by rw [HL.out]; exact Nat.le_refl _) (.inl (by omega)) (by omega) (by rw [HL.out]; exact hql) (HA.out.perm HP.out) (fun l hl => HAT.out l (HP.out.mem_iff.1 hl)) (Sift.start HH.out) HB.out hb0
      have HCL := Aside0.mk hcl
      clear hcl
      go_wp2_with (fail)
      refine HCL.out.mono ?_
      rintro e w2 ⟨q2, mv, rfl, h1, h2, h3, h4, h5, h6⟩
      have H1 := Aside0.mk h1
      have H2 := Aside0.mk h2
      have H4 := Aside0.mk h4
      have H5 := Aside0.mk h5
      have H6 := Aside0.mk h6
      clear h1 h2 h3 h4 h5 h6
      go_wp2_with (fail)
      go_roundg kk
      case measure => omega
      case rel => exact ⟨i, q2, rfl, by omega, by omega, ⟨H2.out.length_eq.trans HL.out⟩, H1, ⟨H2.out.trans HP.out⟩, H4, ⟨HK.out.then_ H5.out (fun k hk => .inl hk)⟩, H6⟩
end Go.Proofs.Ytenmljkddhonmaa.MMrg
