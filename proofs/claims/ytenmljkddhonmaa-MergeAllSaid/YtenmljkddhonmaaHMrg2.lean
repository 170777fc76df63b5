import Derived.Test.YtenmljkddhonmaaHMrg1
import Derived.Test.YtenmljkddhonmaaMMrgx
namespace Go.Proofs.Ytenmljkddhonmaa.MMrg
open Go.RowKit Go.Proofs.Ytenmljkddhonmaa.QMrg Go.Proofs.YtenmljkddhonmaaW.PrintWords Go.Proofs.YtenmljkddhonmaaW.PrintLast Go.Proofs.YtenmljkddhonmaaW.PrintMore
set_option linter.unusedVariables false
set_option linter.unusedSimpArgs false
abbrev L28 := Ln S28
/-- How a queue's methods are found. -/
theorem mPop (m : Addr) : ∀ w, (method (Try.prog.types.size + 100) 78 (.pointer (some m)) "Pop").run Try.prog w = .ok (114, .pointer (some m)) w := fun _ => by kernel_rfl
theorem mLen0 (m : Addr) : ∀ w, (method (Try.prog.types.size + 100) 78 (.pointer (some m)) "Len").run Try.prog w = (do let v ← loadVar 72 m; pure (111, v) : Sem (FuncId × Value)).run Try.prog w := fun _ => by kernel_rfl
theorem mLess0 (m : Addr) : ∀ w, (method (Try.prog.types.size + 100) 78 (.pointer (some m)) "Less").run Try.prog w = (do let v ← loadVar 72 m; pure (112, v) : Sem (FuncId × Value)).run Try.prog w := fun _ => by kernel_rfl
theorem mSwap0 (m : Addr) : ∀ w, (method (Try.prog.types.size + 100) 78 (.pointer (some m)) "Swap").run Try.prog w = (do let v ← loadVar 72 m; pure (113, v) : Sem (FuncId × Value)).run Try.prog w := fun _ => by kernel_rfl
theorem load72 {w : World} {m : Nat} {v : Value} (h : w.cell? ⟨m, 0, none⟩ = some v) : (loadVar 72 ⟨m, 0, none⟩).run Try.prog w = .ok v w := by
  have hu := Try.underlying72
  simp [go_sem, loadVar, h]
/-- What lies of an element. -/
def hc (ask : Nat → Value) (l : L28) : List Value := [.string l.e.f0, .int .i64 l.e.f1, .int .i64 l.e.f2, .string l.e.f3, .string l.e.f4, .int .i64 (l.at_ : Int), .func (Fn.method "Next") #[ask l.at_] #[]]
theorem hc_len (ask : Nat → Value) (l : L28) : (hc ask l).length = 7 := rfl
def flat (ask : Nat → Value) (q : List L28) : List Value := q.flatMap (hc ask)
theorem flat_len (ask : Nat → Value) : ∀ q : List L28, (flat ask q).length = 7 * q.length
  | [] => rfl
  | l :: q => by
    have := flat_len ask q
    unfold flat at *
    rw [List.flatMap_cons, List.length_append, hc_len, this, List.length_cons]; omega
theorem flat_get (ask : Nat → Value) : ∀ (q : List L28) (i x : Nat) (hi : i < q.length), x < 7 → (flat ask q)[i * 7 + x]? = (hc ask q[i])[x]?
  | [], i, x, hi, _ => absurd hi (Nat.not_lt_zero _)
  | l :: q, 0, x, _, hx => by
    unfold flat
    rw [List.flatMap_cons, Nat.zero_mul, Nat.zero_add, List.getElem?_append_left (by rw [hc_len]; exact hx)]; rfl
  | l :: q, i + 1, x, hi, hx => by
    have ih := flat_get ask q i x (by simpa using hi) hx
    unfold flat at *
    rw [List.flatMap_cons, List.getElem?_append_right (by rw [hc_len]; omega), hc_len, show (i + 1) * 7 + x - 7 = i * 7 + x by omega, ih]; rfl
/-- A queue's row. -/
def QRow (w : World) (ask : Nat → Value) (b : Nat) (q : List L28) : Prop := ∃ tail, w.heap[b]? = some (.cells (flat ask q ++ tail).toArray 76 (0, 0))
theorem QRow.cells {w : World} {ask : Nat → Value} {b : Nat} {q : List L28} (h : QRow w ask b q) {i : Nat} (hi : i < q.length) : w.cell? ⟨b, i * 7, none⟩ = some (.string q[i].e.f0) ∧ w.cell? ⟨b, i * 7 + 1, none⟩ = some (.int .i64 q[i].e.f1) ∧ w.cell? ⟨b, i * 7 + 2, none⟩ = some (.int .i64 q[i].e.f2) ∧ w.cell? ⟨b, i * 7 + 3, none⟩ = some (.string q[i].e.f3) ∧ w.cell? ⟨b, i * 7 + 4, none⟩ = some (.string q[i].e.f4) ∧ w.cell? ⟨b, i * 7 + 5, none⟩ = some (.int .i64 (q[i].at_ : Int)) ∧ w.cell? ⟨b, i * 7 + 6, none⟩ = some (.func (Fn.method "Next") #[ask q[i].at_] #[]) := by
  obtain ⟨tail, h⟩ := h
  have key : ∀ x, x < 7 → w.cell? ⟨b, i * 7 + x, none⟩ = (hc ask q[i])[x]? := by
    intro x hx
    rw [blk_cell h, List.getElem?_toArray, List.getElem?_append_left (by rw [flat_len]; omega), flat_get ask q i x hi hx]
  exact ⟨key 0 (by decide), key 1 (by decide), key 2 (by decide), key 3 (by decide), key 4 (by decide), key 5 (by decide), key 6 (by decide)⟩
theorem QRow.frozen {w : World} {ask : Nat → Value} {b : Nat} {q : List L28} (h : QRow w ask b q) (x : Nat) : w.frozen? ⟨b, x, none⟩ = false := by
  obtain ⟨tail, h⟩ := h
  exact blk_frozen h x
theorem QRow.below {w w' : World} {ask : Nat → Value} {b : Nat} {q : List L28} (h : QRow w ask b q) (hb : Below w.heap.size w w') : QRow w' ask b q := by
  obtain ⟨tail, h⟩ := h
  exact ⟨tail, blk_below h hb⟩
end Go.Proofs.Ytenmljkddhonmaa.MMrg
