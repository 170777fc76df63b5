import Derived.Test.YtoglanahjlfihaaHLst0
import Derived.Test.YtoglanahjlfihaaHLst1
namespace Go.Proofs.Ytoglanahjlfihaa.MLst
open Go.RowKit Go.Proofs.Ytoglanahjlfihaa.QLst Go.Proofs.YtoglanahjlfihaaW.PrintWords Go.Proofs.YtoglanahjlfihaaW.PrintLast Go.Proofs.YtoglanahjlfihaaW.PrintMore
set_option linter.unusedVariables false
set_option linter.unusedSimpArgs false
def ptrV (o : Option Nat) : Value := .pointer (o.map fun b => (⟨b, 0, none⟩ : Addr))
theorem ptrV_none : ptrV none = .pointer none := rfl
theorem ptrV_some (b : Nat) : ptrV (some b) = .pointer (some ⟨b, 0, none⟩) := rfl
/-- A row of pointers. -/
def rowV (f : Nat → Option Nat) (h : Nat) : Array Value := ((List.range h).map fun k => ptrV (f k)).toArray
theorem rowV_get {f : Nat → Option Nat} {h k : Nat} (hk : k < h) : (rowV f h)[k]? = some (ptrV (f k)) := by
  unfold rowV
  rw [List.getElem?_toArray, List.getElem?_map, List.getElem?_range hk]; rfl
theorem rowV_congr {f g : Nat → Option Nat} {h : Nat} (e : ∀ k, k < h → f k = g k) : rowV f h = rowV g h := by
  unfold rowV
  congr 1
  exact List.map_congr_left fun k hk => by rw [e k (List.mem_range.1 hk)]
theorem rowV_set (f : Nat → Option Nat) (h k : Nat) (v : Option Nat) : (rowV f h).setIfInBounds k (ptrV v) = rowV (fun j => if j = k then v else f j) h := by
  unfold rowV
  rw [List.setIfInBounds_toArray]
  congr 1
  apply List.ext_getElem?
  intro i
  rw [List.getElem?_set, List.getElem?_map, List.getElem?_map, List.length_map, List.length_range]
  by_cases hi : k = i
  · subst hi
    rw [if_pos rfl]
    by_cases hk : k < h
    · rw [if_pos hk, List.getElem?_range hk]; simp
    · rw [if_neg hk, List.getElem?_eq_none (by rw [List.length_range]; omega)]; rfl
  · rw [if_neg hi]
    by_cases hk : i < h
    · rw [List.getElem?_range hk]; simp [Ne.symm hi]
    · rw [List.getElem?_eq_none (by rw [List.length_range]; omega)]; rfl
theorem rowV_nil (h : Nat) : rowV (fun _ => none) h = Array.replicate h (.pointer none) := by
  unfold rowV
  rw [← List.toArray_replicate]
  congr 1
  apply List.ext_getElem?
  intro i
  rw [List.getElem?_map, List.getElem?_replicate]
  by_cases hk : i < h
  · rw [if_pos hk, List.getElem?_range hk]; rfl
  · rw [if_neg hk, List.getElem?_eq_none (by rw [List.length_range]; omega)]; rfl
def cells (y : Nd S30) : Array Value := #[.string y.e.f0, .int .i64 y.e.f1, .int .i64 y.e.f2, .string y.e.f3, .string y.e.f4, .slice (some ⟨y.n, 0, none⟩) y.h y.h]
/-- A node in memory. -/
def NdB (w : World) (G : Nat → Nat → Option Nat) (y : Nd S30) : Prop := w.heap[y.b]? = some (.cells (cells y) 88 (0, 0)) ∧ w.heap[y.n]? = some (.cells (rowV (G y.b) y.h) 85 (0, 0))
theorem NdB.below {w w' : World} {G : Nat → Nat → Option Nat} {y : Nd S30} (h : NdB w G y) (hb : Below w.heap.size w w') : NdB w' G y := ⟨blk_below h.1 hb, blk_below h.2 hb⟩
/-- A list in memory: its head, its nodes. -/
structure Lst (w : World) (g : Nat) (hd : Nd S30) (tl : List (Nd S30)) (G : Nat → Nat → Option Nat) (vh : Value) (size : Int) : Prop where
  blk : w.heap[g]? = some (.cells #[.pointer (some ⟨hd.b, 0, none⟩), vh, .int .i64 tl.length, .int .i64 size] 90 (0, 0))
  h8 : hd.h = 8
  nodes : ∀ y ∈ hd :: tl, NdB w G y
  lk : Lk (hd :: tl) G
  tall : ∀ y ∈ hd :: tl, 1 ≤ y.h ∧ y.h ≤ 8
  apart : Apart (hd :: tl)
theorem Lst.below {w w' : World} {g : Nat} {hd : Nd S30} {tl : List (Nd S30)} {G : Nat → Nat → Option Nat} {vh : Value} {size : Int} (h : Lst w g hd tl G vh size) (hb : Below w.heap.size w w') : Lst w' g hd tl G vh size :=
  ⟨blk_below h.blk hb, h.h8, fun y hy => (h.nodes y hy).below hb, h.lk, h.tall, h.apart⟩
theorem NdB.cell {w : World} {G : Nat → Nat → Option Nat} {y : Nd S30} (h : NdB w G y) : w.cell? ⟨y.b, 5, none⟩ = some (.slice (some ⟨y.n, 0, none⟩) y.h y.h) := by
  rw [blk_cell h.1 5]; rfl
theorem NdB.at {w : World} {G : Nat → Nat → Option Nat} {y : Nd S30} (h : NdB w G y) {k : Nat} (hk : k < y.h) : w.cell? ⟨y.n, k, none⟩ = some (ptrV (G y.b k)) := by
  rw [blk_cell h.2 k, rowV_get hk]
theorem info85 : (Try.prog.info? 85).map (fun i => (i.zero, i.size, i.bytes)) = some (some (.pointer none), 1, 8) := by kernel_rfl
theorem made_row (n : Nat) : madeCells #[Value.pointer none] n = rowV (fun _ => none) n := by
  rw [rowV_nil]
  simp only [madeCells, List.size_toArray, List.length_singleton, Nat.mod_one]
  apply Array.ext (by simp)
  intro i h1 h2
  simp
theorem make_row (n : Nat) (hn : n ≤ 1000) (W : World) : (Instr.makeSlice 86 (.int .i64 (n : Int)) (.int .i64 (n : Int))).run Try.prog W = .ok (.slice (some ⟨W.heap.size, 0, none⟩) n n) (W.alloc (.cells (rowV (fun _ => none) n) 85)) := by
  rw [← made_row]
  exact Go.run_make_row' (P := Try.prog) 86 85 (.pointer none) 8 Try.underlying86 info85 rfl .i64 .i64 n (by omega) (by omega) W
theorem NdB.ent_cells {w : World} {G : Nat → Nat → Option Nat} {y : Nd S30} (h : NdB w G y) : w.cell? ⟨y.b, 0, none⟩ = some (.string y.e.f0) ∧ w.cell? ⟨y.b, 1, none⟩ = some (.int .i64 y.e.f1) ∧ w.cell? ⟨y.b, 2, none⟩ = some (.int .i64 y.e.f2) ∧ w.cell? ⟨y.b, 3, none⟩ = some (.string y.e.f3) ∧ w.cell? ⟨y.b, 4, none⟩ = some (.string y.e.f4) :=
  ⟨by rw [blk_cell h.1 0]; rfl, by rw [blk_cell h.1 1]; rfl, by rw [blk_cell h.1 2]; rfl, by rw [blk_cell h.1 3]; rfl, by rw [blk_cell h.1 4]; rfl⟩
theorem box_cells {w : World} {gp : Nat} {e : S30} (h : w.heap[gp]? = some (.cells #[.string e.f0, .int .i64 e.f1, .int .i64 e.f2, .string e.f3, .string e.f4] 30 (0, 0))) : w.cell? ⟨gp, 0, none⟩ = some (.string e.f0) ∧ w.cell? ⟨gp, 1, none⟩ = some (.int .i64 e.f1) ∧ w.cell? ⟨gp, 2, none⟩ = some (.int .i64 e.f2) ∧ w.cell? ⟨gp, 3, none⟩ = some (.string e.f3) ∧ w.cell? ⟨gp, 4, none⟩ = some (.string e.f4) :=
  ⟨by rw [blk_cell h 0]; rfl, by rw [blk_cell h 1]; rfl, by rw [blk_cell h 2]; rfl, by rw [blk_cell h 3]; rfl, by rw [blk_cell h 4]; rfl⟩
end Go.Proofs.Ytoglanahjlfihaa.MLst
