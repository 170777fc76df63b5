import Derived.Test.YtenmljkddhonmaaHMrg13
import Derived.Laws.EntriesVeiled
namespace Go.Proofs.Ytenmljkddhonmaa.MMrg
open Go.RowKit Go.Proofs.Ytenmljkddhonmaa.QMrg Go.Proofs.YtenmljkddhonmaaW.PrintWords Go.Proofs.YtenmljkddhonmaaW.PrintLast Go.Proofs.YtenmljkddhonmaaW.PrintMore
set_option linter.unusedVariables false
set_option linter.unusedSimpArgs false
set_option maxRecDepth 100000 in
theorem mSlN : ∀ a w, (method 266 110 (.pointer (some a)) "Next").run Try.prog w = .ok (116, .pointer (some a)) w := by
  rw [m266]; exact fun _ _ => by kernel_rfl
set_option maxRecDepth 100000 in
theorem mTlN : ∀ a w, (method 266 33 (.pointer (some a)) "Next").run Try.prog w = .ok (110, .pointer (some a)) w := by
  rw [m266]; exact fun _ _ => by kernel_rfl
theorem eSlN : ∀ args w, (callFunc 116 args).run Try.prog w = .ok (.enter 116 args) w := enters_of Try.func116 (by kernel_rfl) rfl
theorem eTlN : ∀ args w, (callFunc 110 args).run Try.prog w = .ok (.enter 110 args) w := enters_of Try.func110 (by kernel_rfl) rfl
/-- Lists' sources. -/
def SlK (w0 : World) : SrcK w0 where
  T := 110
  F := 116
  bt := 112
  hbt := by decide
  SP := SlP w0
  SD := fun w p _ => ∃ cs, w.heap[p]? = some (.cells cs 112 (0, 0))
  cons := fun w p c x xs h hB => slice_Next_cons w0 w p c x xs h hB
  nil := fun w p c h hB => by
    obtain ⟨h0, A, cc, hb, hl, hC⟩ := id h
    refine (slice_Next_nil w0 w p c h hB).mono ?_
    rintro e w' ⟨rfl, hk, hb'⟩
    exact ⟨rfl, ⟨_, blk_kept hb hk (fun h => h)⟩, hk.mono (fun _ h => h.elim), hb'⟩
  keepP := fun h hk hs => by
    obtain ⟨h0, A, cc, hb, hl, hC⟩ := h
    exact ⟨h0, A, cc, blk_kept hb hk hs, hl, hC⟩
  keepD := fun h hk hs => by
    obtain ⟨cs, hb⟩ := h
    exact ⟨cs, blk_kept hb hk hs⟩
  blkP := fun h => by
    obtain ⟨h0, A, cc, hb, hl, hC⟩ := h
    exact ⟨_, hb⟩
  blkD := fun h => h
  met := mSlN
  ent := eSlN
/-- Told lists' sources. -/
def TlK (w0 : World) : SrcK w0 where
  T := 33
  F := 110
  bt := 35
  hbt := by decide
  SP := TlP w0
  SD := TlD w0
  cons := fun w p c x xs h hB => told_Next_cons w0 w p c x xs h hB
  nil := fun w p c h hB => told_Next_nil w0 w p c h hB
  keepP := fun h hk hs => by
    obtain ⟨h0, A, cc, L, hb, hl, hC⟩ := h
    exact ⟨h0, A, cc, L, blk_kept hb hk hs, hl, hC⟩
  keepD := fun h hk hs => by
    obtain ⟨h0, v, hb⟩ := h
    exact ⟨h0, v, blk_kept hb hk hs⟩
  blkP := fun h => by
    obtain ⟨h0, A, cc, L, hb, hl, hC⟩ := h
    exact ⟨_, hb⟩
  blkD := fun h => ⟨_, h.2.choose_spec⟩
  met := mTlN
  ent := eTlN
set_option maxRecDepth 100000 in
theorem merge_Slice.calls (w : World) (A : Option Addr) (n c : Nat) :
    Calls Try.prog 34 #[.slice A n c] w fun e w' => e = .returned (.iface 110 (.pointer (some ⟨w.heap.size, 0, none⟩))) ∧ w' = w.alloc (Obj.cells #[.slice A n c] 112) := by
  go_enter Try.func34, Try.ntmps34
  go_wp2_with (fail)
  go_ret
  exact ⟨rfl, rfl⟩
end Go.Proofs.Ytenmljkddhonmaa.MMrg
