-- Written by a program of this session for this claim (out of the translation's print); Lean checks it.
import Derived.Test.YtcijcfdllfaghaaMEntx0
import Derived.Test.YtcijcfdllfaghaaMEntx2
import Derived.Test.YtcijcfdllfaghaaMEntx3
namespace Go.Proofs.Ytcijcfdllfaghaa.MEnt
open Go.RowKit Go.Proofs.YtcijcfdllfaghaaW.PrintWords Go.Proofs.YtcijcfdllfaghaaW.PrintLast Go.Proofs.YtcijcfdllfaghaaW.PrintMore
attribute [local go_sem] max2_int min2_int max_two min_two max_three min_three max_four min_four   -- for this text's walks alone
set_option linter.unusedVariables false
set_option linter.unusedSimpArgs false

/-! ### incipitlaw7_EntryApart: function 5 -/
mutual
def incipitlaw7_EntryApart.j0 : Nat → Bool → ByteArray → Int → Int → ByteArray → ByteArray → ByteArray → Int → Int → ByteArray → ByteArray → Option (Bool)
  | 0, _, _, _, _, _, _, _, _, _, _, _ => none
  | k + 1, x31, x266000, x266001, x266002, x266003, x266004, x267000, x267001, x267002, x267003, x267004 => if x31 = true then (some false) else (if x266000.toList = x267000.toList then (if x266001 = x267001 then (incipitlaw7_EntryApart.j1 k (x266002 == x267002) x266000 x266001 x266002 x266003 x266004 x267000 x267001 x267002 x267003 x267004) else (incipitlaw7_EntryApart.j1 k false x266000 x266001 x266002 x266003 x266004 x267000 x267001 x267002 x267003 x267004)) else (incipitlaw7_EntryApart.j1 k false x266000 x266001 x266002 x266003 x266004 x267000 x267001 x267002 x267003 x267004))
def incipitlaw7_EntryApart.j1 : Nat → Bool → ByteArray → Int → Int → ByteArray → ByteArray → ByteArray → Int → Int → ByteArray → ByteArray → Option (Bool)
  | 0, _, _, _, _, _, _, _, _, _, _, _ => none
  | k + 1, x8, x266000, x266001, x266002, x266003, x266004, x267000, x267001, x267002, x267003, x267004 => (ikey_Less.f x266000 x266001 x266002 x266003 x266004 x267000 x267001 x267002 x267003 x267004).bind fun t287 => (if t287 = true then ((ikey_Less.f x267000 x267001 x267002 x267003 x267004 x266000 x266001 x266002 x266003 x266004).bind fun t288 => (incipitlaw7_EntryApart.j2 k x8 t288 x266000 x266001 x266002 x266003 x266004 x267000 x267001 x267002 x267003 x267004)) else (incipitlaw7_EntryApart.j2 k x8 false x266000 x266001 x266002 x266003 x266004 x267000 x267001 x267002 x267003 x267004))
def incipitlaw7_EntryApart.j2 : Nat → Bool → Bool → ByteArray → Int → Int → ByteArray → ByteArray → ByteArray → Int → Int → ByteArray → ByteArray → Option (Bool)
  | 0, _, _, _, _, _, _, _, _, _, _, _, _ => none
  | k + 1, x8, x58, x266000, x266001, x266002, x266003, x266004, x267000, x267001, x267002, x267003, x267004 => if x58 = true then (some false) else ((ikey_Less.f x266000 x266001 x266002 x266003 x266004 x267000 x267001 x267002 x267003 x267004).bind fun t289 => (if t289 = true then (some (true == (!x8))) else ((ikey_Less.f x267000 x267001 x267002 x267003 x267004 x266000 x266001 x266002 x266003 x266004).bind fun t290 => (some (t290 == (!x8))))))
end
def incipitlaw7_EntryApart.f (k : Nat) (a0_0 : ByteArray) (a0_1 : Int) (a0_2 : Int) (a0_3 : ByteArray) (a0_4 : ByteArray) (a1_0 : ByteArray) (a1_1 : Int) (a1_2 : Int) (a1_3 : ByteArray) (a1_4 : ByteArray) (a2_0 : ByteArray) (a2_1 : Int) (a2_2 : Int) (a2_3 : ByteArray) (a2_4 : ByteArray) : Option (Bool) := (incipitlaw7_begun.f k).bind fun t268 => (if t268 = true then ((incipitlaw7_Cut.f a0_0 a0_1 a0_2 a0_3 a0_4).bind fun bt269 => ((incipitlaw7_Cut.f a1_0 a1_1 a1_2 a1_3 a1_4).bind fun bt274 => ((incipitlaw7_Cut.f a2_0 a2_1 a2_2 a2_3 a2_4).bind fun bt279 => ((ikey_Less.f bt269.1 bt269.2.1 bt269.2.2.1 bt269.2.2.2.1 bt269.2.2.2.2 bt274.1 bt274.2.1 bt274.2.2.1 bt274.2.2.2.1 bt274.2.2.2.2).bind fun t284 => (if t284 = true then ((ikey_Less.f bt274.1 bt274.2.1 bt274.2.2.1 bt274.2.2.2.1 bt274.2.2.2.2 bt279.1 bt279.2.1 bt279.2.2.1 bt279.2.2.2.1 bt279.2.2.2.2).bind fun t285 => (if t285 = true then ((ikey_Less.f bt269.1 bt269.2.1 bt269.2.2.1 bt269.2.2.2.1 bt269.2.2.2.2 bt279.1 bt279.2.1 bt279.2.2.1 bt279.2.2.2.1 bt279.2.2.2.2).bind fun t286 => (incipitlaw7_EntryApart.j0 k (!t286) bt269.1 bt269.2.1 bt269.2.2.1 bt269.2.2.2.1 bt269.2.2.2.2 bt274.1 bt274.2.1 bt274.2.2.1 bt274.2.2.2.1 bt274.2.2.2.2)) else (incipitlaw7_EntryApart.j0 k false bt269.1 bt269.2.1 bt269.2.2.1 bt269.2.2.2.1 bt269.2.2.2.2 bt274.1 bt274.2.1 bt274.2.2.1 bt274.2.2.2.1 bt274.2.2.2.2))) else (incipitlaw7_EntryApart.j0 k false bt269.1 bt269.2.1 bt269.2.2.1 bt269.2.2.2.1 bt269.2.2.2.2 bt274.1 bt274.2.1 bt274.2.2.1 bt274.2.2.2.1 bt274.2.2.2.2)))))) else (some false))
theorem incipitlaw7_EntryApart.mono_l : ∀ k, (∀ y0 y1 y2 y3 y4 y5 y6 y7 y8 y9 y10, LeO (incipitlaw7_EntryApart.j0 k y0 y1 y2 y3 y4 y5 y6 y7 y8 y9 y10) (incipitlaw7_EntryApart.j0 (k + 1) y0 y1 y2 y3 y4 y5 y6 y7 y8 y9 y10)) ∧ (∀ y0 y1 y2 y3 y4 y5 y6 y7 y8 y9 y10, LeO (incipitlaw7_EntryApart.j1 k y0 y1 y2 y3 y4 y5 y6 y7 y8 y9 y10) (incipitlaw7_EntryApart.j1 (k + 1) y0 y1 y2 y3 y4 y5 y6 y7 y8 y9 y10)) ∧ (∀ y0 y1 y2 y3 y4 y5 y6 y7 y8 y9 y10 y11, LeO (incipitlaw7_EntryApart.j2 k y0 y1 y2 y3 y4 y5 y6 y7 y8 y9 y10 y11) (incipitlaw7_EntryApart.j2 (k + 1) y0 y1 y2 y3 y4 y5 y6 y7 y8 y9 y10 y11))
  | 0 => ⟨fun _ _ _ _ _ _ _ _ _ _ _ r h => by simp [incipitlaw7_EntryApart.j0] at h, fun _ _ _ _ _ _ _ _ _ _ _ r h => by simp [incipitlaw7_EntryApart.j1] at h, fun _ _ _ _ _ _ _ _ _ _ _ _ r h => by simp [incipitlaw7_EntryApart.j2] at h⟩
  | k + 1 => by
    obtain ⟨ih0, ih1, ih2⟩ := incipitlaw7_EntryApart.mono_l k
    refine ⟨?_, ?_, ?_⟩
    · intro y0 y1 y2 y3 y4 y5 y6 y7 y8 y9 y10
      unfold incipitlaw7_EntryApart.j0
      repeat' first
      | (with_reducible exact ih0 _ _ _ _ _ _ _ _ _ _ _)
      | (with_reducible exact ih1 _ _ _ _ _ _ _ _ _ _ _)
      | (with_reducible exact ih2 _ _ _ _ _ _ _ _ _ _ _ _)
      | (with_reducible exact incipitlaw7_begun.mono _)
      | (with_reducible exact LeO.refl _)
      | (with_reducible exact LeO.none _)
      | (with_reducible refine LeO.ite ?_ ?_)
      | (with_reducible refine LeO.bind ?_ (fun _ => ?_))
      | exact ih0 _ _ _ _ _ _ _ _ _ _ _
      | exact ih1 _ _ _ _ _ _ _ _ _ _ _
      | exact ih2 _ _ _ _ _ _ _ _ _ _ _ _
      | exact incipitlaw7_begun.mono _
      | exact LeO.none _
      | refine LeO.ite ?_ ?_
      | refine LeO.bind ?_ (fun _ => ?_)
    · intro y0 y1 y2 y3 y4 y5 y6 y7 y8 y9 y10
      unfold incipitlaw7_EntryApart.j1
      repeat' first
      | (with_reducible exact ih0 _ _ _ _ _ _ _ _ _ _ _)
      | (with_reducible exact ih1 _ _ _ _ _ _ _ _ _ _ _)
      | (with_reducible exact ih2 _ _ _ _ _ _ _ _ _ _ _ _)
      | (with_reducible exact incipitlaw7_begun.mono _)
      | (with_reducible exact LeO.refl _)
      | (with_reducible exact LeO.none _)
      | (with_reducible refine LeO.ite ?_ ?_)
      | (with_reducible refine LeO.bind ?_ (fun _ => ?_))
      | exact ih0 _ _ _ _ _ _ _ _ _ _ _
      | exact ih1 _ _ _ _ _ _ _ _ _ _ _
      | exact ih2 _ _ _ _ _ _ _ _ _ _ _ _
      | exact incipitlaw7_begun.mono _
      | exact LeO.none _
      | refine LeO.ite ?_ ?_
      | refine LeO.bind ?_ (fun _ => ?_)
    · intro y0 y1 y2 y3 y4 y5 y6 y7 y8 y9 y10 y11
      unfold incipitlaw7_EntryApart.j2
      repeat' first
      | (with_reducible exact ih0 _ _ _ _ _ _ _ _ _ _ _)
      | (with_reducible exact ih1 _ _ _ _ _ _ _ _ _ _ _)
      | (with_reducible exact ih2 _ _ _ _ _ _ _ _ _ _ _ _)
      | (with_reducible exact incipitlaw7_begun.mono _)
      | (with_reducible exact LeO.refl _)
      | (with_reducible exact LeO.none _)
      | (with_reducible refine LeO.ite ?_ ?_)
      | (with_reducible refine LeO.bind ?_ (fun _ => ?_))
      | exact ih0 _ _ _ _ _ _ _ _ _ _ _
      | exact ih1 _ _ _ _ _ _ _ _ _ _ _
      | exact ih2 _ _ _ _ _ _ _ _ _ _ _ _
      | exact incipitlaw7_begun.mono _
      | exact LeO.none _
      | refine LeO.ite ?_ ?_
      | refine LeO.bind ?_ (fun _ => ?_)
theorem incipitlaw7_EntryApart.mono : ∀ a0 a1 a2 a3 a4 a5 a6 a7 a8 a9 a10 a11 a12 a13 a14 k, LeO (incipitlaw7_EntryApart.f k a0 a1 a2 a3 a4 a5 a6 a7 a8 a9 a10 a11 a12 a13 a14) (incipitlaw7_EntryApart.f (k + 1) a0 a1 a2 a3 a4 a5 a6 a7 a8 a9 a10 a11 a12 a13 a14) := by
  intro a0 a1 a2 a3 a4 a5 a6 a7 a8 a9 a10 a11 a12 a13 a14 k
  obtain ⟨ih0, ih1, ih2⟩ := incipitlaw7_EntryApart.mono_l k
  unfold incipitlaw7_EntryApart.f
  repeat' first
      | (with_reducible exact ih0 _ _ _ _ _ _ _ _ _ _ _)
      | (with_reducible exact ih1 _ _ _ _ _ _ _ _ _ _ _)
      | (with_reducible exact ih2 _ _ _ _ _ _ _ _ _ _ _ _)
      | (with_reducible exact incipitlaw7_begun.mono _)
      | (with_reducible exact LeO.refl _)
      | (with_reducible exact LeO.none _)
      | (with_reducible refine LeO.ite ?_ ?_)
      | (with_reducible refine LeO.bind ?_ (fun _ => ?_))
      | exact ih0 _ _ _ _ _ _ _ _ _ _ _
      | exact ih1 _ _ _ _ _ _ _ _ _ _ _
      | exact ih2 _ _ _ _ _ _ _ _ _ _ _ _
      | exact incipitlaw7_begun.mono _
      | exact LeO.none _
      | refine LeO.ite ?_ ?_
      | refine LeO.bind ?_ (fun _ => ?_)
def incipitlaw7_EntryApart.T4 : Bool × List (List Nat × List Nat) := (true, [([], []), ([0], [0]), ([], []), ([2, 1], [2]), ([], []), ([4, 3], [4]), ([1, 5, 0, 1], [1]), ([3, 6, 0, 1, 2, 3, 6], [3]), ([5, 7, 0, 1, 2, 3, 4, 5, 6, 7], [5])])
def incipitlaw7_EntryApart.B4 : List Nat := [0, 1, 0, 7, 0, 31, 63, 127, 255]
theorem incipitlaw7_EntryApart.tab4 : rtab .any (opsOf Try.f5 4) = incipitlaw7_EntryApart.T4 := by kernel_rfl
theorem incipitlaw7_EntryApart.bits4 : waitsOk incipitlaw7_EntryApart.T4.2 incipitlaw7_EntryApart.B4 = true := by kernel_rfl
/-- A whole struct stored into its variable. -/
def set23_ (W : World) (g : Nat) (v0 : ByteArray) (v1 v2 : Int) (v3 v4 : ByteArray) : World := (((((W.setCell ⟨g, 0, none⟩ (.string v0)).setCell ⟨g, 1, none⟩ (.int .i64 v1)).setCell ⟨g, 2, none⟩ (.int .i64 v2)).setCell ⟨g, 3, none⟩ (.string v3)).setCell ⟨g, 4, none⟩ (.string v4))
theorem store23_ (W : World) (g : Nat) (o0 : ByteArray) (o1 o2 : Int) (o3 o4 : ByteArray) (v0 : ByteArray) (v1 v2 : Int) (v3 v4 : ByteArray) (hg : W.heap[g]? = some (.cells #[.string o0, .int .i64 o1, .int .i64 o2, .string o3, .string o4] 23 (0, 0))) (ev : Operand → Value) (p x : Operand) (hp : ev p = .pointer (some ⟨g, 0, none⟩)) (hx : ev x = .agg #[.string v0, .int .i64 v1, .int .i64 v2, .string v3, .string v4]) (o : Oper) (ho : o.op = .store 23 p x) :
    (execOp ev o).run Try.prog W = .ok .skip (set23_ W g v0 v1 v2 v3 v4) := by
  have hu23 := Try.underlying23
  have h0 : W.cell? ⟨g, 0, none⟩ = some (.string o0) := (blk_cell hg 0).trans rfl
  have h1 : W.cell? ⟨g, 1, none⟩ = some (.int .i64 o1) := (blk_cell hg 1).trans rfl
  have h2 : W.cell? ⟨g, 2, none⟩ = some (.int .i64 o2) := (blk_cell hg 2).trans rfl
  have h3 : W.cell? ⟨g, 3, none⟩ = some (.string o3) := (blk_cell hg 3).trans rfl
  have h4 : W.cell? ⟨g, 4, none⟩ = some (.string o4) := (blk_cell hg 4).trans rfl
  have f0 := blk_frozen hg 0
  have f1 := blk_frozen hg 1
  have f2 := blk_frozen hg 2
  have f3 := blk_frozen hg 3
  have f4 := blk_frozen hg 4
  clear hg
  unfold execOp set23_
  rw [ho]
  simp only [hp, hx]
  go_simp
theorem set23_facts (W : World) (g : Nat) (o0 : ByteArray) (o1 o2 : Int) (o3 o4 : ByteArray) (v0 : ByteArray) (v1 v2 : Int) (v3 v4 : ByteArray) (hg : W.heap[g]? = some (.cells #[.string o0, .int .i64 o1, .int .i64 o2, .string o3, .string o4] 23 (0, 0))) :
    (set23_ W g v0 v1 v2 v3 v4).heap[g]? = some (.cells #[.string v0, .int .i64 v1, .int .i64 v2, .string v3, .string v4] 23 (0, 0)) ∧ (∀ h, h ≠ g → (set23_ W g v0 v1 v2 v3 v4).heap[h]? = W.heap[h]?) ∧ (∀ w : World, Below w.heap.size w W → w.heap.size ≤ g → Below w.heap.size w (set23_ W g v0 v1 v2 v3 v4)) := by
  refine ⟨?_, ?_, ?_⟩
  · exact blk_put (blk_put (blk_put (blk_put (blk_put hg 0 _ rfl) 1 _ rfl) 2 _ rfl) 3 _ rfl) 4 _ rfl
  · intro h hh
    unfold set23_
    exact (Below.heap_setCell _ ⟨g, 4, none⟩ _ _ hh).trans ((Below.heap_setCell _ ⟨g, 3, none⟩ _ _ hh).trans ((Below.heap_setCell _ ⟨g, 2, none⟩ _ _ hh).trans ((Below.heap_setCell _ ⟨g, 1, none⟩ _ _ hh).trans (Below.heap_setCell _ ⟨g, 0, none⟩ _ _ hh))))
  · intro w hb hge
    exact below_set (below_set (below_set (below_set (below_set hb hge) hge) hge) hge) hge

set_option maxHeartbeats 80000000 in
set_option maxRecDepth 100000 in
theorem incipitlaw7_EntryApart.calls (k : Nat) (a0_0 : ByteArray) (a0_1 : Int) (a0_2 : Int) (a0_3 : ByteArray) (a0_4 : ByteArray) (a1_0 : ByteArray) (a1_1 : Int) (a1_2 : Int) (a1_3 : ByteArray) (a1_4 : ByteArray) (a2_0 : ByteArray) (a2_1 : Int) (a2_2 : Int) (a2_3 : ByteArray) (a2_4 : ByteArray) (r : Bool) (w : World) (hrt : r = true) (h : incipitlaw7_EntryApart.f k a0_0 a0_1 a0_2 a0_3 a0_4 a1_0 a1_1 a1_2 a1_3 a1_4 a2_0 a2_1 a2_2 a2_3 a2_4 = some r) :
    Calls Try.prog 5 #[.agg #[.string a0_0, .int .i64 a0_1, .int .i64 a0_2, .string a0_3, .string a0_4], .agg #[.string a1_0, .int .i64 a1_1, .int .i64 a1_2, .string a1_3, .string a1_4], .agg #[.string a2_0, .int .i64 a2_1, .int .i64 a2_2, .string a2_3, .string a2_4]] w fun e w' => e = .returned (.bool r) ∧ Below w.heap.size w w' := by
  have hu23 := Try.underlying23
  have HRT := Aside0.mk hrt
  clear hrt
  have HB := Aside0.mk (Below.refl w.heap.size w)
  have H : ((incipitlaw7_begun.f k).bind fun t268 => (if t268 = true then ((incipitlaw7_Cut.f a0_0 a0_1 a0_2 a0_3 a0_4).bind fun bt269 => ((incipitlaw7_Cut.f a1_0 a1_1 a1_2 a1_3 a1_4).bind fun bt274 => ((incipitlaw7_Cut.f a2_0 a2_1 a2_2 a2_3 a2_4).bind fun bt279 => ((ikey_Less.f bt269.1 bt269.2.1 bt269.2.2.1 bt269.2.2.2.1 bt269.2.2.2.2 bt274.1 bt274.2.1 bt274.2.2.1 bt274.2.2.2.1 bt274.2.2.2.2).bind fun t284 => (if t284 = true then ((ikey_Less.f bt274.1 bt274.2.1 bt274.2.2.1 bt274.2.2.2.1 bt274.2.2.2.2 bt279.1 bt279.2.1 bt279.2.2.1 bt279.2.2.2.1 bt279.2.2.2.2).bind fun t285 => (if t285 = true then ((ikey_Less.f bt269.1 bt269.2.1 bt269.2.2.1 bt269.2.2.2.1 bt269.2.2.2.2 bt279.1 bt279.2.1 bt279.2.2.1 bt279.2.2.2.1 bt279.2.2.2.2).bind fun t286 => (incipitlaw7_EntryApart.j0 k (!t286) bt269.1 bt269.2.1 bt269.2.2.1 bt269.2.2.2.1 bt269.2.2.2.2 bt274.1 bt274.2.1 bt274.2.2.1 bt274.2.2.2.1 bt274.2.2.2.2)) else (incipitlaw7_EntryApart.j0 k false bt269.1 bt269.2.1 bt269.2.2.1 bt269.2.2.2.1 bt269.2.2.2.2 bt274.1 bt274.2.1 bt274.2.2.1 bt274.2.2.2.1 bt274.2.2.2.2))) else (incipitlaw7_EntryApart.j0 k false bt269.1 bt269.2.1 bt269.2.2.1 bt269.2.2.2.1 bt269.2.2.2.2 bt274.1 bt274.2.1 bt274.2.2.1 bt274.2.2.2.1 bt274.2.2.2.2)))))) else (some false))) = some r := h
  clear h
  replace H := Option.bind_eq_some_iff.mp H
  obtain ⟨t268, A40, H⟩ := H
  replace H : (if t268 = true then ((incipitlaw7_Cut.f a0_0 a0_1 a0_2 a0_3 a0_4).bind fun bt269 => ((incipitlaw7_Cut.f a1_0 a1_1 a1_2 a1_3 a1_4).bind fun bt274 => ((incipitlaw7_Cut.f a2_0 a2_1 a2_2 a2_3 a2_4).bind fun bt279 => ((ikey_Less.f bt269.1 bt269.2.1 bt269.2.2.1 bt269.2.2.2.1 bt269.2.2.2.2 bt274.1 bt274.2.1 bt274.2.2.1 bt274.2.2.2.1 bt274.2.2.2.2).bind fun t284 => (if t284 = true then ((ikey_Less.f bt274.1 bt274.2.1 bt274.2.2.1 bt274.2.2.2.1 bt274.2.2.2.2 bt279.1 bt279.2.1 bt279.2.2.1 bt279.2.2.2.1 bt279.2.2.2.2).bind fun t285 => (if t285 = true then ((ikey_Less.f bt269.1 bt269.2.1 bt269.2.2.1 bt269.2.2.2.1 bt269.2.2.2.2 bt279.1 bt279.2.1 bt279.2.2.1 bt279.2.2.2.1 bt279.2.2.2.2).bind fun t286 => (incipitlaw7_EntryApart.j0 k (!t286) bt269.1 bt269.2.1 bt269.2.2.1 bt269.2.2.2.1 bt269.2.2.2.2 bt274.1 bt274.2.1 bt274.2.2.1 bt274.2.2.2.1 bt274.2.2.2.2)) else (incipitlaw7_EntryApart.j0 k false bt269.1 bt269.2.1 bt269.2.2.1 bt269.2.2.2.1 bt269.2.2.2.2 bt274.1 bt274.2.1 bt274.2.2.1 bt274.2.2.2.1 bt274.2.2.2.2))) else (incipitlaw7_EntryApart.j0 k false bt269.1 bt269.2.1 bt269.2.2.1 bt269.2.2.2.1 bt269.2.2.2.2 bt274.1 bt274.2.1 bt274.2.2.1 bt274.2.2.2.1 bt274.2.2.2.2)))))) else (some false)) = some r := H
  have A4 := Aside0.mk A40
  clear A40
  by_cases c5 : t268 = true
  · subst c5
    have H1 : ((incipitlaw7_Cut.f a0_0 a0_1 a0_2 a0_3 a0_4).bind fun bt269 => ((incipitlaw7_Cut.f a1_0 a1_1 a1_2 a1_3 a1_4).bind fun bt274 => ((incipitlaw7_Cut.f a2_0 a2_1 a2_2 a2_3 a2_4).bind fun bt279 => ((ikey_Less.f bt269.1 bt269.2.1 bt269.2.2.1 bt269.2.2.2.1 bt269.2.2.2.2 bt274.1 bt274.2.1 bt274.2.2.1 bt274.2.2.2.1 bt274.2.2.2.2).bind fun t284 => (if t284 = true then ((ikey_Less.f bt274.1 bt274.2.1 bt274.2.2.1 bt274.2.2.2.1 bt274.2.2.2.2 bt279.1 bt279.2.1 bt279.2.2.1 bt279.2.2.2.1 bt279.2.2.2.2).bind fun t285 => (if t285 = true then ((ikey_Less.f bt269.1 bt269.2.1 bt269.2.2.1 bt269.2.2.2.1 bt269.2.2.2.2 bt279.1 bt279.2.1 bt279.2.2.1 bt279.2.2.2.1 bt279.2.2.2.2).bind fun t286 => (incipitlaw7_EntryApart.j0 k (!t286) bt269.1 bt269.2.1 bt269.2.2.1 bt269.2.2.2.1 bt269.2.2.2.2 bt274.1 bt274.2.1 bt274.2.2.1 bt274.2.2.2.1 bt274.2.2.2.2)) else (incipitlaw7_EntryApart.j0 k false bt269.1 bt269.2.1 bt269.2.2.1 bt269.2.2.2.1 bt269.2.2.2.2 bt274.1 bt274.2.1 bt274.2.2.1 bt274.2.2.2.1 bt274.2.2.2.2))) else (incipitlaw7_EntryApart.j0 k false bt269.1 bt269.2.1 bt269.2.2.1 bt269.2.2.2.1 bt269.2.2.2.2 bt274.1 bt274.2.1 bt274.2.2.1 bt274.2.2.2.1 bt274.2.2.2.2)))))) = some r := by rw [if_pos rfl] at H; exact H
    clear H
    have H := H1
    clear H1
    replace H := Option.bind_eq_some_iff.mp H
    obtain ⟨⟨t269, t270, t271, t272, t273⟩, A60, H⟩ := H
    replace H : ((incipitlaw7_Cut.f a1_0 a1_1 a1_2 a1_3 a1_4).bind fun bt274 => ((incipitlaw7_Cut.f a2_0 a2_1 a2_2 a2_3 a2_4).bind fun bt279 => ((ikey_Less.f t269 t270 t271 t272 t273 bt274.1 bt274.2.1 bt274.2.2.1 bt274.2.2.2.1 bt274.2.2.2.2).bind fun t284 => (if t284 = true then ((ikey_Less.f bt274.1 bt274.2.1 bt274.2.2.1 bt274.2.2.2.1 bt274.2.2.2.2 bt279.1 bt279.2.1 bt279.2.2.1 bt279.2.2.2.1 bt279.2.2.2.2).bind fun t285 => (if t285 = true then ((ikey_Less.f t269 t270 t271 t272 t273 bt279.1 bt279.2.1 bt279.2.2.1 bt279.2.2.2.1 bt279.2.2.2.2).bind fun t286 => (incipitlaw7_EntryApart.j0 k (!t286) t269 t270 t271 t272 t273 bt274.1 bt274.2.1 bt274.2.2.1 bt274.2.2.2.1 bt274.2.2.2.2)) else (incipitlaw7_EntryApart.j0 k false t269 t270 t271 t272 t273 bt274.1 bt274.2.1 bt274.2.2.1 bt274.2.2.2.1 bt274.2.2.2.2))) else (incipitlaw7_EntryApart.j0 k false t269 t270 t271 t272 t273 bt274.1 bt274.2.1 bt274.2.2.1 bt274.2.2.2.1 bt274.2.2.2.2))))) = some r := H
    have A6 := Aside0.mk A60
    clear A60
    replace H := Option.bind_eq_some_iff.mp H
    obtain ⟨⟨t274, t275, t276, t277, t278⟩, A70, H⟩ := H
    replace H : ((incipitlaw7_Cut.f a2_0 a2_1 a2_2 a2_3 a2_4).bind fun bt279 => ((ikey_Less.f t269 t270 t271 t272 t273 t274 t275 t276 t277 t278).bind fun t284 => (if t284 = true then ((ikey_Less.f t274 t275 t276 t277 t278 bt279.1 bt279.2.1 bt279.2.2.1 bt279.2.2.2.1 bt279.2.2.2.2).bind fun t285 => (if t285 = true then ((ikey_Less.f t269 t270 t271 t272 t273 bt279.1 bt279.2.1 bt279.2.2.1 bt279.2.2.2.1 bt279.2.2.2.2).bind fun t286 => (incipitlaw7_EntryApart.j0 k (!t286) t269 t270 t271 t272 t273 t274 t275 t276 t277 t278)) else (incipitlaw7_EntryApart.j0 k false t269 t270 t271 t272 t273 t274 t275 t276 t277 t278))) else (incipitlaw7_EntryApart.j0 k false t269 t270 t271 t272 t273 t274 t275 t276 t277 t278)))) = some r := H
    have A7 := Aside0.mk A70
    clear A70
    replace H := Option.bind_eq_some_iff.mp H
    obtain ⟨⟨t279, t280, t281, t282, t283⟩, A80, H⟩ := H
    replace H : ((ikey_Less.f t269 t270 t271 t272 t273 t274 t275 t276 t277 t278).bind fun t284 => (if t284 = true then ((ikey_Less.f t274 t275 t276 t277 t278 t279 t280 t281 t282 t283).bind fun t285 => (if t285 = true then ((ikey_Less.f t269 t270 t271 t272 t273 t279 t280 t281 t282 t283).bind fun t286 => (incipitlaw7_EntryApart.j0 k (!t286) t269 t270 t271 t272 t273 t274 t275 t276 t277 t278)) else (incipitlaw7_EntryApart.j0 k false t269 t270 t271 t272 t273 t274 t275 t276 t277 t278))) else (incipitlaw7_EntryApart.j0 k false t269 t270 t271 t272 t273 t274 t275 t276 t277 t278))) = some r := H
    have A8 := Aside0.mk A80
    clear A80
    have HC9 := Aside0.mk H
    clear H
    go_enter Try.func5, Try.ntmps5
    try go_wp2_with (first | ((with_reducible refine gate_dst (N := 3) rfl ?_); refine box_event ?hg (N := 3) ?hd (cs := #[.string a0_0, .int .i64 a0_1, .int .i64 a0_2, .string a0_3, .string a0_4]) (t := 23) ?hr ?_; (case hd => rfl); (case hg => rfl); (case hr => first | (go_simp; done) | (go_simp; rfl)); intro gb265 hg w10 hbox hb; have n0_ := Aside0.mk (below_step (by repeat (first | (with_reducible first | exact HB.out | apply below_alloc | apply pw_below_drewN | apply below_drew1) | exact HB.out)) hb); have n1_ := Aside0.mk (hbox); have n2_ := Aside0.mk ((by rw [hg]; exact (below_size (by repeat (first | (with_reducible first | exact HB.out | apply below_alloc | apply pw_below_drewN | apply below_drew1) | exact HB.out))) : w.heap.size ≤ gb265)); have n3_ := Aside0.mk ((by rw [hg]; exact (below_size (by repeat (first | (with_reducible first | exact HB.out | apply below_alloc | apply pw_below_drewN | apply below_drew1) | exact HB.out))) : w.heap.size ≤ gb265)); clear HB; have HB := n0_; have BK265 := n1_; have GW265 := n2_; have GE265 := n3_; clear n0_ n1_ n2_ n3_; clear hb hbox hg) | ((with_reducible refine gate_dst (N := 4) rfl ?_); refine box_event ?hg (N := 4) ?hd (cs := #[.string a1_0, .int .i64 a1_1, .int .i64 a1_2, .string a1_3, .string a1_4]) (t := 23) ?hr ?_; (case hd => rfl); (case hg => rfl); (case hr => first | (go_simp; done) | (go_simp; rfl)); intro gb266 hg w11 hbox hb; have n0_ := Aside0.mk (blk_below (g := gb265) (o := .cells #[.string a0_0, .int .i64 a0_1, .int .i64 a0_2, .string a0_3, .string a0_4] 23 (0, 0)) (by (with_reducible repeat (first | refine blk_drewN ?_ _ | refine blk_drew ?_ | refine blk_alloc ?_ _)); exact BK265.out) hb); have n1_ := Aside0.mk (below_step (by repeat (first | (with_reducible first | exact HB.out | apply below_alloc | apply pw_below_drewN | apply below_drew1 | refine below_set ?_ GE265.out) | exact HB.out)) hb); have n2_ := Aside0.mk (hbox); have n3_ := Aside0.mk ((by rw [hg]; exact (below_size (by repeat (first | (with_reducible first | exact HB.out | apply below_alloc | apply pw_below_drewN | apply below_drew1 | refine below_set ?_ GE265.out) | exact HB.out))) : w.heap.size ≤ gb266)); have n4_ := Aside0.mk ((by rw [hg]; exact (below_size (by repeat (first | (with_reducible first | exact HB.out | apply below_alloc | apply pw_below_drewN | apply below_drew1 | refine below_set ?_ GE265.out) | exact HB.out))) : w.heap.size ≤ gb266)); have n5_ := Aside0.mk ((by rw [hg]; exact Nat.ne_of_lt (blk_lt (g := gb265) (o := .cells #[.string a0_0, .int .i64 a0_1, .int .i64 a0_2, .string a0_3, .string a0_4] 23 (0, 0)) (by (with_reducible repeat (first | refine blk_drewN ?_ _ | refine blk_drew ?_ | refine blk_alloc ?_ _)); exact BK265.out)) : gb265 ≠ gb266)); have n6_ := Aside0.mk ((by rw [hg]; exact Nat.ne_of_gt (blk_lt (g := gb265) (o := .cells #[.string a0_0, .int .i64 a0_1, .int .i64 a0_2, .string a0_3, .string a0_4] 23 (0, 0)) (by (with_reducible repeat (first | refine blk_drewN ?_ _ | refine blk_drew ?_ | refine blk_alloc ?_ _)); exact BK265.out)) : gb266 ≠ gb265)); clear BK265; clear HB; have BK265 := n0_; have HB := n1_; have BK266 := n2_; have GW266 := n3_; have GE266 := n4_; have NB265_266 := n5_; have NB266_265 := n6_; clear n0_ n1_ n2_ n3_ n4_ n5_ n6_; clear hb hbox hg) | ((with_reducible refine gate_dst (N := 5) rfl ?_); refine box_event ?hg (N := 5) ?hd (cs := #[.string a2_0, .int .i64 a2_1, .int .i64 a2_2, .string a2_3, .string a2_4]) (t := 23) ?hr ?_; (case hd => rfl); (case hg => rfl); (case hr => first | (go_simp; done) | (go_simp; rfl)); intro gb267 hg w12 hbox hb; have n0_ := Aside0.mk (blk_below (g := gb265) (o := .cells #[.string a0_0, .int .i64 a0_1, .int .i64 a0_2, .string a0_3, .string a0_4] 23 (0, 0)) (by (with_reducible repeat (first | refine blk_drewN ?_ _ | refine blk_drew ?_ | refine blk_alloc ?_ _)); exact BK265.out) hb); have n1_ := Aside0.mk (blk_below (g := gb266) (o := .cells #[.string a1_0, .int .i64 a1_1, .int .i64 a1_2, .string a1_3, .string a1_4] 23 (0, 0)) (by (with_reducible repeat (first | refine blk_drewN ?_ _ | refine blk_drew ?_ | refine blk_alloc ?_ _)); exact BK266.out) hb); have n2_ := Aside0.mk (below_step (by repeat (first | (with_reducible first | exact HB.out | apply below_alloc | apply pw_below_drewN | apply below_drew1 | refine below_set ?_ GE265.out | refine below_set ?_ GE266.out) | exact HB.out)) hb); have n3_ := Aside0.mk (hbox); have n4_ := Aside0.mk ((by rw [hg]; exact (below_size (by repeat (first | (with_reducible first | exact HB.out | apply below_alloc | apply pw_below_drewN | apply below_drew1 | refine below_set ?_ GE265.out | refine below_set ?_ GE266.out) | exact HB.out))) : w.heap.size ≤ gb267)); have n5_ := Aside0.mk ((by rw [hg]; exact (below_size (by repeat (first | (with_reducible first | exact HB.out | apply below_alloc | apply pw_below_drewN | apply below_drew1 | refine below_set ?_ GE265.out | refine below_set ?_ GE266.out) | exact HB.out))) : w.heap.size ≤ gb267)); have n6_ := Aside0.mk ((by rw [hg]; exact Nat.ne_of_lt (blk_lt (g := gb265) (o := .cells #[.string a0_0, .int .i64 a0_1, .int .i64 a0_2, .string a0_3, .string a0_4] 23 (0, 0)) (by (with_reducible repeat (first | refine blk_drewN ?_ _ | refine blk_drew ?_ | refine blk_alloc ?_ _)); exact BK265.out)) : gb265 ≠ gb267)); have n7_ := Aside0.mk ((by rw [hg]; exact Nat.ne_of_gt (blk_lt (g := gb265) (o := .cells #[.string a0_0, .int .i64 a0_1, .int .i64 a0_2, .string a0_3, .string a0_4] 23 (0, 0)) (by (with_reducible repeat (first | refine blk_drewN ?_ _ | refine blk_drew ?_ | refine blk_alloc ?_ _)); exact BK265.out)) : gb267 ≠ gb265)); have n8_ := Aside0.mk ((by rw [hg]; exact Nat.ne_of_lt (blk_lt (g := gb266) (o := .cells #[.string a1_0, .int .i64 a1_1, .int .i64 a1_2, .string a1_3, .string a1_4] 23 (0, 0)) (by (with_reducible repeat (first | refine blk_drewN ?_ _ | refine blk_drew ?_ | refine blk_alloc ?_ _)); exact BK266.out)) : gb266 ≠ gb267)); have n9_ := Aside0.mk ((by rw [hg]; exact Nat.ne_of_gt (blk_lt (g := gb266) (o := .cells #[.string a1_0, .int .i64 a1_1, .int .i64 a1_2, .string a1_3, .string a1_4] 23 (0, 0)) (by (with_reducible repeat (first | refine blk_drewN ?_ _ | refine blk_drew ?_ | refine blk_alloc ?_ _)); exact BK266.out)) : gb267 ≠ gb266)); clear BK265; clear BK266; clear HB; have BK265 := n0_; have BK266 := n1_; have HB := n2_; have BK267 := n3_; have GW267 := n4_; have GE267 := n5_; have NB265_267 := n6_; have NB267_265 := n7_; have NB266_267 := n8_; have NB267_266 := n9_; clear n0_ n1_ n2_ n3_ n4_ n5_ n6_ n7_ n8_ n9_; clear hb hbox hg) | ((with_reducible refine gate_callee (f := 15) rfl ?_); refine goesL_ (some 9) rfl rfl Try.func15 (by kernel_rfl) rfl #[] rfl (by (try simp only [List.map_toArray, List.map_cons, List.map_nil]); first | done | rfl | (simp only [List.length_drop, List.length_take]; rfl)) ?_; (with_reducible refine (incipitlaw7_begun.calls k  true _ rfl A4.out).mono ?_); rintro e w13 ⟨rfl, hb⟩; refine ⟨_, rfl, ?_⟩; have n0_ := Aside0.mk (blk_below (g := gb265) (o := .cells #[.string a0_0, .int .i64 a0_1, .int .i64 a0_2, .string a0_3, .string a0_4] 23 (0, 0)) (by (with_reducible repeat (first | refine blk_drewN ?_ _ | refine blk_drew ?_ | refine blk_alloc ?_ _)); exact BK265.out) hb); have n1_ := Aside0.mk (blk_below (g := gb266) (o := .cells #[.string a1_0, .int .i64 a1_1, .int .i64 a1_2, .string a1_3, .string a1_4] 23 (0, 0)) (by (with_reducible repeat (first | refine blk_drewN ?_ _ | refine blk_drew ?_ | refine blk_alloc ?_ _)); exact BK266.out) hb); have n2_ := Aside0.mk (blk_below (g := gb267) (o := .cells #[.string a2_0, .int .i64 a2_1, .int .i64 a2_2, .string a2_3, .string a2_4] 23 (0, 0)) (by (with_reducible repeat (first | refine blk_drewN ?_ _ | refine blk_drew ?_ | refine blk_alloc ?_ _)); exact BK267.out) hb); have n3_ := Aside0.mk (below_step (by repeat (first | (with_reducible first | exact HB.out | apply below_alloc | apply pw_below_drewN | apply below_drew1 | refine below_set ?_ GE265.out | refine below_set ?_ GE266.out | refine below_set ?_ GE267.out) | exact HB.out)) hb); clear BK265; clear BK266; clear BK267; clear HB; have BK265 := n0_; have BK266 := n1_; have BK267 := n2_; have HB := n3_; clear n0_ n1_ n2_ n3_; (try clear hb); (try clear hb2); (try clear hk); (try clear hi)))
    have n0_ := Aside0.mk (blk_drew BK265.out)
    have n1_ := Aside0.mk (blk_drew BK266.out)
    have n2_ := Aside0.mk (blk_drew BK267.out)
    have n3_ := Aside0.mk (below_drew1 HB.out)
    clear BK265
    clear BK266
    clear BK267
    clear HB
    have BK265 := n0_
    have BK266 := n1_
    have BK267 := n2_
    have HB := n3_
    clear n0_ n1_ n2_ n3_
    refine start_ (n := 9) (S := fun w' => w'.cell? ⟨gb265, 0, none⟩ = some (.string a0_0) ∧ w'.cell? ⟨gb265, 1, none⟩ = some (.int .i64 a0_1) ∧ w'.cell? ⟨gb265, 2, none⟩ = some (.int .i64 a0_2) ∧ w'.cell? ⟨gb265, 3, none⟩ = some (.string a0_3) ∧ w'.cell? ⟨gb265, 4, none⟩ = some (.string a0_4) ∧ w'.cell? ⟨gb266, 0, none⟩ = some (.string a1_0) ∧ w'.cell? ⟨gb266, 1, none⟩ = some (.int .i64 a1_1) ∧ w'.cell? ⟨gb266, 2, none⟩ = some (.int .i64 a1_2) ∧ w'.cell? ⟨gb266, 3, none⟩ = some (.string a1_3) ∧ w'.cell? ⟨gb266, 4, none⟩ = some (.string a1_4) ∧ w'.cell? ⟨gb267, 0, none⟩ = some (.string a2_0) ∧ w'.cell? ⟨gb267, 1, none⟩ = some (.int .i64 a2_1) ∧ w'.cell? ⟨gb267, 2, none⟩ = some (.int .i64 a2_2) ∧ w'.cell? ⟨gb267, 3, none⟩ = some (.string a2_3) ∧ w'.cell? ⟨gb267, 4, none⟩ = some (.string a2_4)) (ds := [6, 7, 8]) #[false, false, false, false, false, false, false, false, false] (by kernel_rfl) rfl rfl ⟨(blk_cell BK265.out 0).trans rfl, (blk_cell BK265.out 1).trans rfl, (blk_cell BK265.out 2).trans rfl, (blk_cell BK265.out 3).trans rfl, (blk_cell BK265.out 4).trans rfl, (blk_cell BK266.out 0).trans rfl, (blk_cell BK266.out 1).trans rfl, (blk_cell BK266.out 2).trans rfl, (blk_cell BK266.out 3).trans rfl, (blk_cell BK266.out 4).trans rfl, (blk_cell BK267.out 0).trans rfl, (blk_cell BK267.out 1).trans rfl, (blk_cell BK267.out 2).trans rfl, (blk_cell BK267.out 3).trans rfl, (blk_cell BK267.out 4).trans rfl⟩ (fun hHeld => ?_); refine with_tabW incipitlaw7_EntryApart.tab4 incipitlaw7_EntryApart.bits4 (fun HT_ HW_ => ?_)
    generalize w13.drew = w14 at BK265 BK266 BK267 HB hHeld ⊢
    refine take_ (i := 0) (N := some 12) (v := ?_) (a' := ?_) #[true, false, false, false, false, false, false, false, false] rfl rfl (take_ofW HT_.out HW_.out (by kernel_rfl)) (fun _ _ _ h => h) (Or.inl ⟨by rfl, ?_⟩) hHeld ?_ ?_
    rotate_left
    · rintro w' ⟨s0, s1, s2, s3, s4, s5, s6, s7, s8, s9, s10, s11, s12, s13, s14⟩
      go_simp
      with_reducible rfl
    rotate_left
    · simp only [Act.put, List.setIfInBounds_toArray, List.set_cons_zero, List.set_cons_succ, i64_w, i32_w]
      rfl
    refine take_ (i := 2) (N := some 14) (v := ?_) (a' := ?_) #[true, false, true, false, false, false, false, false, false] rfl rfl (take_ofW HT_.out HW_.out (by kernel_rfl)) (fun _ _ _ h => h) (Or.inl ⟨by rfl, ?_⟩) hHeld ?_ ?_
    rotate_left
    · rintro w' ⟨s0, s1, s2, s3, s4, s5, s6, s7, s8, s9, s10, s11, s12, s13, s14⟩
      go_simp
      with_reducible rfl
    rotate_left
    · simp only [Act.put, List.setIfInBounds_toArray, List.set_cons_zero, List.set_cons_succ, i64_w, i32_w]
      rfl
    refine take_ (i := 4) (N := some 16) (v := ?_) (a' := ?_) #[true, false, true, false, true, false, false, false, false] rfl rfl (take_ofW HT_.out HW_.out (by kernel_rfl)) (fun _ _ _ h => h) (Or.inl ⟨by rfl, ?_⟩) hHeld ?_ ?_
    rotate_left
    · rintro w' ⟨s0, s1, s2, s3, s4, s5, s6, s7, s8, s9, s10, s11, s12, s13, s14⟩
      go_simp
      with_reducible rfl
    rotate_left
    · simp only [Act.put, List.setIfInBounds_toArray, List.set_cons_zero, List.set_cons_succ, i64_w, i32_w]
      rfl
    refine one_ (i := 1) (N := some 13) #[true, true, true, false, true, false, false, false, false] rfl rfl (one_of HT_.out (by kernel_rfl)) (by decide) (fun K hK => ?_)
    refine goes_ Try.func16 (by kernel_rfl) rfl #[.agg #[.string a0_0, .int .i64 a0_1, .int .i64 a0_2, .string a0_3, .string a0_4]] (by rfl) rfl rfl (by (try simp only [List.map_toArray, List.map_cons, List.map_nil]); first | done | rfl | (simp only [List.length_drop, List.length_take]; rfl)) ?_
    with_reducible refine (incipitlaw7_Cut.calls a0_0 a0_1 a0_2 a0_3 a0_4 t269 t270 t271 t272 t273 _ A6.out).mono ?_
    rintro e w15 ⟨rfl, hb⟩
    refine ⟨_, rfl, ?_⟩
    have n0_ := Aside0.mk (blk_below (g := gb265) (o := .cells #[.string a0_0, .int .i64 a0_1, .int .i64 a0_2, .string a0_3, .string a0_4] 23 (0, 0)) (by (with_reducible repeat (first | refine blk_drewN ?_ _ | refine blk_drew ?_ | refine blk_alloc ?_ _)); exact BK265.out) hb)
    have n1_ := Aside0.mk (blk_below (g := gb266) (o := .cells #[.string a1_0, .int .i64 a1_1, .int .i64 a1_2, .string a1_3, .string a1_4] 23 (0, 0)) (by (with_reducible repeat (first | refine blk_drewN ?_ _ | refine blk_drew ?_ | refine blk_alloc ?_ _)); exact BK266.out) hb)
    have n2_ := Aside0.mk (blk_below (g := gb267) (o := .cells #[.string a2_0, .int .i64 a2_1, .int .i64 a2_2, .string a2_3, .string a2_4] 23 (0, 0)) (by (with_reducible repeat (first | refine blk_drewN ?_ _ | refine blk_drew ?_ | refine blk_alloc ?_ _)); exact BK267.out) hb)
    have n3_ := Aside0.mk (below_step (by repeat (first | (with_reducible first | exact HB.out | apply below_alloc | apply pw_below_drewN | apply below_drew1 | refine below_set ?_ GE265.out | refine below_set ?_ GE266.out | refine below_set ?_ GE267.out) | exact HB.out)) hb)
    clear BK265
    clear BK266
    clear BK267
    clear HB
    have BK265 := n0_
    have BK266 := n1_
    have BK267 := n2_
    have HB := n3_
    clear n0_ n1_ n2_ n3_
    (try clear hb)
    (try clear hb2)
    (try clear hk)
    (try clear hi)
    refine hK.out _ _ ⟨(blk_cell BK265.out 0).trans rfl, (blk_cell BK265.out 1).trans rfl, (blk_cell BK265.out 2).trans rfl, (blk_cell BK265.out 3).trans rfl, (blk_cell BK265.out 4).trans rfl, (blk_cell BK266.out 0).trans rfl, (blk_cell BK266.out 1).trans rfl, (blk_cell BK266.out 2).trans rfl, (blk_cell BK266.out 3).trans rfl, (blk_cell BK266.out 4).trans rfl, (blk_cell BK267.out 0).trans rfl, (blk_cell BK267.out 1).trans rfl, (blk_cell BK267.out 2).trans rfl, (blk_cell BK267.out 3).trans rfl, (blk_cell BK267.out 4).trans rfl⟩ (fun hHeld => ?_)
    clear hK K
    refine norm_ (a' := ?_) ?_ ?_
    rotate_left
    · show Act.put _ (some 13) _ = _
      simp only [Act.put, List.setIfInBounds_toArray, List.set_cons_zero, List.set_cons_succ, i64_w, i32_w]
      rfl
    refine one_ (i := 3) (N := some 15) #[true, true, true, true, true, false, false, false, false] rfl rfl (one_of HT_.out (by kernel_rfl)) (by decide) (fun K hK => ?_)
    refine goes_ Try.func16 (by kernel_rfl) rfl #[.agg #[.string a1_0, .int .i64 a1_1, .int .i64 a1_2, .string a1_3, .string a1_4]] (by rfl) rfl rfl (by (try simp only [List.map_toArray, List.map_cons, List.map_nil]); first | done | rfl | (simp only [List.length_drop, List.length_take]; rfl)) ?_
    with_reducible refine (incipitlaw7_Cut.calls a1_0 a1_1 a1_2 a1_3 a1_4 t274 t275 t276 t277 t278 _ A7.out).mono ?_
    rintro e w16 ⟨rfl, hb⟩
    refine ⟨_, rfl, ?_⟩
    have n0_ := Aside0.mk (blk_below (g := gb265) (o := .cells #[.string a0_0, .int .i64 a0_1, .int .i64 a0_2, .string a0_3, .string a0_4] 23 (0, 0)) (by (with_reducible repeat (first | refine blk_drewN ?_ _ | refine blk_drew ?_ | refine blk_alloc ?_ _)); exact BK265.out) hb)
    have n1_ := Aside0.mk (blk_below (g := gb266) (o := .cells #[.string a1_0, .int .i64 a1_1, .int .i64 a1_2, .string a1_3, .string a1_4] 23 (0, 0)) (by (with_reducible repeat (first | refine blk_drewN ?_ _ | refine blk_drew ?_ | refine blk_alloc ?_ _)); exact BK266.out) hb)
    have n2_ := Aside0.mk (blk_below (g := gb267) (o := .cells #[.string a2_0, .int .i64 a2_1, .int .i64 a2_2, .string a2_3, .string a2_4] 23 (0, 0)) (by (with_reducible repeat (first | refine blk_drewN ?_ _ | refine blk_drew ?_ | refine blk_alloc ?_ _)); exact BK267.out) hb)
    have n3_ := Aside0.mk (below_step (by repeat (first | (with_reducible first | exact HB.out | apply below_alloc | apply pw_below_drewN | apply below_drew1 | refine below_set ?_ GE265.out | refine below_set ?_ GE266.out | refine below_set ?_ GE267.out) | exact HB.out)) hb)
    clear BK265
    clear BK266
    clear BK267
    clear HB
    have BK265 := n0_
    have BK266 := n1_
    have BK267 := n2_
    have HB := n3_
    clear n0_ n1_ n2_ n3_
    (try clear hb)
    (try clear hb2)
    (try clear hk)
    (try clear hi)
    refine hK.out _ _ ⟨(blk_cell BK265.out 0).trans rfl, (blk_cell BK265.out 1).trans rfl, (blk_cell BK265.out 2).trans rfl, (blk_cell BK265.out 3).trans rfl, (blk_cell BK265.out 4).trans rfl, (blk_cell BK266.out 0).trans rfl, (blk_cell BK266.out 1).trans rfl, (blk_cell BK266.out 2).trans rfl, (blk_cell BK266.out 3).trans rfl, (blk_cell BK266.out 4).trans rfl, (blk_cell BK267.out 0).trans rfl, (blk_cell BK267.out 1).trans rfl, (blk_cell BK267.out 2).trans rfl, (blk_cell BK267.out 3).trans rfl, (blk_cell BK267.out 4).trans rfl⟩ (fun hHeld => ?_)
    clear hK K
    refine norm_ (a' := ?_) ?_ ?_
    rotate_left
    · show Act.put _ (some 15) _ = _
      simp only [Act.put, List.setIfInBounds_toArray, List.set_cons_zero, List.set_cons_succ, i64_w, i32_w]
      rfl
    refine one_ (i := 5) (N := some 17) #[true, true, true, true, true, true, false, false, false] rfl rfl (one_of HT_.out (by kernel_rfl)) (by decide) (fun K hK => ?_)
    refine goes_ Try.func16 (by kernel_rfl) rfl #[.agg #[.string a2_0, .int .i64 a2_1, .int .i64 a2_2, .string a2_3, .string a2_4]] (by rfl) rfl rfl (by (try simp only [List.map_toArray, List.map_cons, List.map_nil]); first | done | rfl | (simp only [List.length_drop, List.length_take]; rfl)) ?_
    with_reducible refine (incipitlaw7_Cut.calls a2_0 a2_1 a2_2 a2_3 a2_4 t279 t280 t281 t282 t283 _ A8.out).mono ?_
    rintro e w17 ⟨rfl, hb⟩
    refine ⟨_, rfl, ?_⟩
    have n0_ := Aside0.mk (blk_below (g := gb265) (o := .cells #[.string a0_0, .int .i64 a0_1, .int .i64 a0_2, .string a0_3, .string a0_4] 23 (0, 0)) (by (with_reducible repeat (first | refine blk_drewN ?_ _ | refine blk_drew ?_ | refine blk_alloc ?_ _)); exact BK265.out) hb)
    have n1_ := Aside0.mk (blk_below (g := gb266) (o := .cells #[.string a1_0, .int .i64 a1_1, .int .i64 a1_2, .string a1_3, .string a1_4] 23 (0, 0)) (by (with_reducible repeat (first | refine blk_drewN ?_ _ | refine blk_drew ?_ | refine blk_alloc ?_ _)); exact BK266.out) hb)
    have n2_ := Aside0.mk (blk_below (g := gb267) (o := .cells #[.string a2_0, .int .i64 a2_1, .int .i64 a2_2, .string a2_3, .string a2_4] 23 (0, 0)) (by (with_reducible repeat (first | refine blk_drewN ?_ _ | refine blk_drew ?_ | refine blk_alloc ?_ _)); exact BK267.out) hb)
    have n3_ := Aside0.mk (below_step (by repeat (first | (with_reducible first | exact HB.out | apply below_alloc | apply pw_below_drewN | apply below_drew1 | refine below_set ?_ GE265.out | refine below_set ?_ GE266.out | refine below_set ?_ GE267.out) | exact HB.out)) hb)
    clear BK265
    clear BK266
    clear BK267
    clear HB
    have BK265 := n0_
    have BK266 := n1_
    have BK267 := n2_
    have HB := n3_
    clear n0_ n1_ n2_ n3_
    (try clear hb)
    (try clear hb2)
    (try clear hk)
    (try clear hi)
    refine hK.out _ _ ⟨(blk_cell BK265.out 0).trans rfl, (blk_cell BK265.out 1).trans rfl, (blk_cell BK265.out 2).trans rfl, (blk_cell BK265.out 3).trans rfl, (blk_cell BK265.out 4).trans rfl, (blk_cell BK266.out 0).trans rfl, (blk_cell BK266.out 1).trans rfl, (blk_cell BK266.out 2).trans rfl, (blk_cell BK266.out 3).trans rfl, (blk_cell BK266.out 4).trans rfl, (blk_cell BK267.out 0).trans rfl, (blk_cell BK267.out 1).trans rfl, (blk_cell BK267.out 2).trans rfl, (blk_cell BK267.out 3).trans rfl, (blk_cell BK267.out 4).trans rfl⟩ (fun hHeld => ?_)
    clear hK K
    refine norm_ (a' := ?_) ?_ ?_
    rotate_left
    · show Act.put _ (some 17) _ = _
      simp only [Act.put, List.setIfInBounds_toArray, List.set_cons_zero, List.set_cons_succ, i64_w, i32_w]
      rfl
    refine last_ (i := 6) (N := none) #[true, true, true, true, true, true, true, false, false] rfl rfl (one_of HT_.out (by kernel_rfl)) (by decide) (fun K hK => ?_)






























    refine skip_ (w1 := set23_ w17 gb265 t269 t270 t271 t272 t273) (by rfl) rfl ?_ ?_

    · refine store23_ w17 gb265 a0_0 a0_1 a0_2 a0_3 a0_4 t269 t270 t271 t272 t273 BK265.out _ (.tmp 3) (.tmp 13) ?_ ?_ _ ?_ <;> rfl

    refine hK.out _ _ ?_
    clear hK K
    obtain ⟨G_, O_, B_⟩ := set23_facts w17 gb265 a0_0 a0_1 a0_2 a0_3 a0_4 t269 t270 t271 t272 t273 BK265.out
    generalize set23_ w17 gb265 t269 t270 t271 t272 t273 = wst0 at G_ O_ B_ ⊢
    replace BK266 := Aside0.mk ((O_ gb266 NB266_265.out).trans BK266.out)
    replace BK267 := Aside0.mk ((O_ gb267 NB267_265.out).trans BK267.out)
    replace BK265 := Aside0.mk G_
    replace HB := Aside0.mk (B_ w HB.out GE265.out)
    clear G_ O_ B_
    refine last_ (i := 7) (N := none) #[true, true, true, true, true, true, true, true, false] rfl rfl (one_of HT_.out (by kernel_rfl)) (by decide) (fun K hK => ?_)






























    refine skip_ (w1 := set23_ wst0 gb266 t274 t275 t276 t277 t278) (by rfl) rfl ?_ ?_

    · refine store23_ wst0 gb266 a1_0 a1_1 a1_2 a1_3 a1_4 t274 t275 t276 t277 t278 BK266.out _ (.tmp 4) (.tmp 15) ?_ ?_ _ ?_ <;> rfl

    refine hK.out _ _ ?_
    clear hK K
    obtain ⟨G_, O_, B_⟩ := set23_facts wst0 gb266 a1_0 a1_1 a1_2 a1_3 a1_4 t274 t275 t276 t277 t278 BK266.out
    generalize set23_ wst0 gb266 t274 t275 t276 t277 t278 = wst1 at G_ O_ B_ ⊢
    replace BK265 := Aside0.mk ((O_ gb265 NB265_266.out).trans BK265.out)
    replace BK267 := Aside0.mk ((O_ gb267 NB267_266.out).trans BK267.out)
    replace BK266 := Aside0.mk G_
    replace HB := Aside0.mk (B_ w HB.out GE266.out)
    clear G_ O_ B_
    refine last_ (i := 8) (N := none) #[true, true, true, true, true, true, true, true, true] rfl rfl (one_of HT_.out (by kernel_rfl)) (by decide) (fun K hK => ?_)






























    refine skip_ (w1 := set23_ wst1 gb267 t279 t280 t281 t282 t283) (by rfl) rfl ?_ ?_

    · refine store23_ wst1 gb267 a2_0 a2_1 a2_2 a2_3 a2_4 t279 t280 t281 t282 t283 BK267.out _ (.tmp 5) (.tmp 17) ?_ ?_ _ ?_ <;> rfl

    refine hK.out _ _ ?_
    clear hK K
    obtain ⟨G_, O_, B_⟩ := set23_facts wst1 gb267 a2_0 a2_1 a2_2 a2_3 a2_4 t279 t280 t281 t282 t283 BK267.out
    generalize set23_ wst1 gb267 t279 t280 t281 t282 t283 = wst2 at G_ O_ B_ ⊢
    replace BK265 := Aside0.mk ((O_ gb265 NB265_267.out).trans BK265.out)
    replace BK266 := Aside0.mk ((O_ gb266 NB266_267.out).trans BK266.out)
    replace BK267 := Aside0.mk G_
    replace HB := Aside0.mk (B_ w HB.out GE267.out)
    clear G_ O_ B_
    refine done_ (done_of HT_.out (by kernel_rfl)) ?_
    go_upto_region 5 with (fail)
    go_cut [31] (fun v31 wc => ∃ (kq : Nat) (x31_8 : Bool), v31 = .bool x31_8 ∧ Aside0 (incipitlaw7_EntryApart.j0 kq x31_8 t269 t270 t271 t272 t273 t274 t275 t276 t277 t278 = some r) ∧ Aside0 (kq ≤ k) ∧ Aside0 (wc.heap[gb265]? = some (.cells #[.string t269, .int .i64 t270, .int .i64 t271, .string t272, .string t273] 23 (0, 0))) ∧ Aside0 (wc.heap[gb266]? = some (.cells #[.string t274, .int .i64 t275, .int .i64 t276, .string t277, .string t278] 23 (0, 0))) ∧ Aside0 (wc.heap[gb267]? = some (.cells #[.string t279, .int .i64 t280, .int .i64 t281, .string t282, .string t283] 23 (0, 0))) ∧ Aside0 (Below w.heap.size w wc))
    case first =>
      have H := HC9.out
      clear HC9
      replace H := Option.bind_eq_some_iff.mp H
      obtain ⟨t284, A330, H⟩ := H
      replace H : (if t284 = true then ((ikey_Less.f t274 t275 t276 t277 t278 t279 t280 t281 t282 t283).bind fun t285 => (if t285 = true then ((ikey_Less.f t269 t270 t271 t272 t273 t279 t280 t281 t282 t283).bind fun t286 => (incipitlaw7_EntryApart.j0 k (!t286) t269 t270 t271 t272 t273 t274 t275 t276 t277 t278)) else (incipitlaw7_EntryApart.j0 k false t269 t270 t271 t272 t273 t274 t275 t276 t277 t278))) else (incipitlaw7_EntryApart.j0 k false t269 t270 t271 t272 t273 t274 t275 t276 t277 t278)) = some r := H
      have A33 := Aside0.mk A330
      clear A330
      by_cases c34 : t284 = true
      · subst c34
        have H1 : ((ikey_Less.f t274 t275 t276 t277 t278 t279 t280 t281 t282 t283).bind fun t285 => (if t285 = true then ((ikey_Less.f t269 t270 t271 t272 t273 t279 t280 t281 t282 t283).bind fun t286 => (incipitlaw7_EntryApart.j0 k (!t286) t269 t270 t271 t272 t273 t274 t275 t276 t277 t278)) else (incipitlaw7_EntryApart.j0 k false t269 t270 t271 t272 t273 t274 t275 t276 t277 t278))) = some r := by rw [if_pos rfl] at H; exact H
        clear H
        have H := H1
        clear H1
        replace H := Option.bind_eq_some_iff.mp H
        obtain ⟨t285, A350, H⟩ := H
        replace H : (if t285 = true then ((ikey_Less.f t269 t270 t271 t272 t273 t279 t280 t281 t282 t283).bind fun t286 => (incipitlaw7_EntryApart.j0 k (!t286) t269 t270 t271 t272 t273 t274 t275 t276 t277 t278)) else (incipitlaw7_EntryApart.j0 k false t269 t270 t271 t272 t273 t274 t275 t276 t277 t278)) = some r := H
        have A35 := Aside0.mk A350
        clear A350
        by_cases c36 : t285 = true
        · subst c36
          have H1 : ((ikey_Less.f t269 t270 t271 t272 t273 t279 t280 t281 t282 t283).bind fun t286 => (incipitlaw7_EntryApart.j0 k (!t286) t269 t270 t271 t272 t273 t274 t275 t276 t277 t278)) = some r := by rw [if_pos rfl] at H; exact H
          clear H
          have H := H1
          clear H1
          replace H := Option.bind_eq_some_iff.mp H
          obtain ⟨t286, A370, H⟩ := H
          replace H : (incipitlaw7_EntryApart.j0 k (!t286) t269 t270 t271 t272 t273 t274 t275 t276 t277 t278) = some r := H
          have A37 := Aside0.mk A370
          clear A370
          have H' := Aside0.mk H
          clear H
          have hnb38 := NB265_266.out
          have hnc38 := NB266_265.out
          have hnb39 := NB265_267.out
          have hnc39 := NB267_265.out
          have hcz40_0 : wst2.cell? ⟨gb265, 0, none⟩ = some (.string t269) := (blk_cell BK265.out 0).trans rfl
          have hcz40_1 : wst2.cell? ⟨gb265, 1, none⟩ = some (.int .i64 t270) := (blk_cell BK265.out 1).trans rfl
          have hcz40_2 : wst2.cell? ⟨gb265, 2, none⟩ = some (.int .i64 t271) := (blk_cell BK265.out 2).trans rfl
          have hcz40_3 : wst2.cell? ⟨gb265, 3, none⟩ = some (.string t272) := (blk_cell BK265.out 3).trans rfl
          have hcz40_4 : wst2.cell? ⟨gb265, 4, none⟩ = some (.string t273) := (blk_cell BK265.out 4).trans rfl
          have hfz40_0 := blk_frozen BK265.out 0
          have hfz40_1 := blk_frozen BK265.out 1
          have hfz40_2 := blk_frozen BK265.out 2
          have hfz40_3 := blk_frozen BK265.out 3
          have hfz40_4 := blk_frozen BK265.out 4
          have hnb41 := NB266_267.out
          have hnc41 := NB267_266.out
          have hcz42_0 : wst2.cell? ⟨gb266, 0, none⟩ = some (.string t274) := (blk_cell BK266.out 0).trans rfl
          have hcz42_1 : wst2.cell? ⟨gb266, 1, none⟩ = some (.int .i64 t275) := (blk_cell BK266.out 1).trans rfl
          have hcz42_2 : wst2.cell? ⟨gb266, 2, none⟩ = some (.int .i64 t276) := (blk_cell BK266.out 2).trans rfl
          have hcz42_3 : wst2.cell? ⟨gb266, 3, none⟩ = some (.string t277) := (blk_cell BK266.out 3).trans rfl
          have hcz42_4 : wst2.cell? ⟨gb266, 4, none⟩ = some (.string t278) := (blk_cell BK266.out 4).trans rfl
          have hfz42_0 := blk_frozen BK266.out 0
          have hfz42_1 := blk_frozen BK266.out 1
          have hfz42_2 := blk_frozen BK266.out 2
          have hfz42_3 := blk_frozen BK266.out 3
          have hfz42_4 := blk_frozen BK266.out 4
          go_wp2_with (first | ((with_reducible refine gate_callee (f := 17) rfl ?_); refine goesL_ (some 20) rfl rfl Try.func17 (by kernel_rfl) rfl #[.agg #[.string t269, .int .i64 t270, .int .i64 t271, .string t272, .string t273], .agg #[.string t274, .int .i64 t275, .int .i64 t276, .string t277, .string t278]] rfl (by (try simp only [List.map_toArray, List.map_cons, List.map_nil]); first | done | rfl | (simp only [List.length_drop, List.length_take]; rfl)) ?_; (with_reducible refine (ikey_Less.calls t269 t270 t271 t272 t273 t274 t275 t276 t277 t278 true _ A33.out).mono ?_); rintro e w43 ⟨rfl, hb⟩; refine ⟨_, rfl, ?_⟩; have n0_ := Aside0.mk (blk_below (g := gb265) (o := .cells #[.string t269, .int .i64 t270, .int .i64 t271, .string t272, .string t273] 23 (0, 0)) (by (with_reducible repeat (first | refine blk_drewN ?_ _ | refine blk_drew ?_ | refine blk_alloc ?_ _)); exact BK265.out) hb); have n1_ := Aside0.mk (blk_below (g := gb266) (o := .cells #[.string t274, .int .i64 t275, .int .i64 t276, .string t277, .string t278] 23 (0, 0)) (by (with_reducible repeat (first | refine blk_drewN ?_ _ | refine blk_drew ?_ | refine blk_alloc ?_ _)); exact BK266.out) hb); have n2_ := Aside0.mk (blk_below (g := gb267) (o := .cells #[.string t279, .int .i64 t280, .int .i64 t281, .string t282, .string t283] 23 (0, 0)) (by (with_reducible repeat (first | refine blk_drewN ?_ _ | refine blk_drew ?_ | refine blk_alloc ?_ _)); exact BK267.out) hb); have n3_ := Aside0.mk (below_step (by repeat (first | (with_reducible first | exact HB.out | apply below_alloc | apply pw_below_drewN | apply below_drew1 | refine below_set ?_ GE265.out | refine below_set ?_ GE266.out | refine below_set ?_ GE267.out) | exact HB.out)) hb); clear BK265; clear BK266; clear BK267; clear HB; have BK265 := n0_; have BK266 := n1_; have BK267 := n2_; have HB := n3_; clear n0_ n1_ n2_ n3_; (try clear hb); (try clear hb2); (try clear hk); (try clear hi); have hcz44_0 : w43.cell? ⟨gb266, 0, none⟩ = some (.string t274) := (blk_cell BK266.out 0).trans rfl; have hcz44_1 : w43.cell? ⟨gb266, 1, none⟩ = some (.int .i64 t275) := (blk_cell BK266.out 1).trans rfl; have hcz44_2 : w43.cell? ⟨gb266, 2, none⟩ = some (.int .i64 t276) := (blk_cell BK266.out 2).trans rfl; have hcz44_3 : w43.cell? ⟨gb266, 3, none⟩ = some (.string t277) := (blk_cell BK266.out 3).trans rfl; have hcz44_4 : w43.cell? ⟨gb266, 4, none⟩ = some (.string t278) := (blk_cell BK266.out 4).trans rfl; have hfz44_0 := blk_frozen BK266.out 0; have hfz44_1 := blk_frozen BK266.out 1; have hfz44_2 := blk_frozen BK266.out 2; have hfz44_3 := blk_frozen BK266.out 3; have hfz44_4 := blk_frozen BK266.out 4; have hcz45_0 : w43.cell? ⟨gb267, 0, none⟩ = some (.string t279) := (blk_cell BK267.out 0).trans rfl; have hcz45_1 : w43.cell? ⟨gb267, 1, none⟩ = some (.int .i64 t280) := (blk_cell BK267.out 1).trans rfl; have hcz45_2 : w43.cell? ⟨gb267, 2, none⟩ = some (.int .i64 t281) := (blk_cell BK267.out 2).trans rfl; have hcz45_3 : w43.cell? ⟨gb267, 3, none⟩ = some (.string t282) := (blk_cell BK267.out 3).trans rfl; have hcz45_4 : w43.cell? ⟨gb267, 4, none⟩ = some (.string t283) := (blk_cell BK267.out 4).trans rfl; have hfz45_0 := blk_frozen BK267.out 0; have hfz45_1 := blk_frozen BK267.out 1; have hfz45_2 := blk_frozen BK267.out 2; have hfz45_3 := blk_frozen BK267.out 3; have hfz45_4 := blk_frozen BK267.out 4) | (go_at_call 17; (with_reducible refine (ikey_Less.calls t274 t275 t276 t277 t278 t279 t280 t281 t282 t283 true _ A35.out).mono ?_); rintro e w46 ⟨rfl, hb⟩; have n0_ := Aside0.mk (blk_below (g := gb265) (o := .cells #[.string t269, .int .i64 t270, .int .i64 t271, .string t272, .string t273] 23 (0, 0)) (by (with_reducible repeat (first | refine blk_drewN ?_ _ | refine blk_drew ?_ | refine blk_alloc ?_ _)); exact BK265.out) hb); have n1_ := Aside0.mk (blk_below (g := gb266) (o := .cells #[.string t274, .int .i64 t275, .int .i64 t276, .string t277, .string t278] 23 (0, 0)) (by (with_reducible repeat (first | refine blk_drewN ?_ _ | refine blk_drew ?_ | refine blk_alloc ?_ _)); exact BK266.out) hb); have n2_ := Aside0.mk (blk_below (g := gb267) (o := .cells #[.string t279, .int .i64 t280, .int .i64 t281, .string t282, .string t283] 23 (0, 0)) (by (with_reducible repeat (first | refine blk_drewN ?_ _ | refine blk_drew ?_ | refine blk_alloc ?_ _)); exact BK267.out) hb); have n3_ := Aside0.mk (below_step (by repeat (first | (with_reducible first | exact HB.out | apply below_alloc | apply pw_below_drewN | apply below_drew1 | refine below_set ?_ GE265.out | refine below_set ?_ GE266.out | refine below_set ?_ GE267.out) | exact HB.out)) hb); clear BK265; clear BK266; clear BK267; clear HB; have BK265 := n0_; have BK266 := n1_; have BK267 := n2_; have HB := n3_; clear n0_ n1_ n2_ n3_; (try clear hb); (try clear hb2); (try clear hk); (try clear hi); have hcz47_0 : w46.cell? ⟨gb265, 0, none⟩ = some (.string t269) := (blk_cell BK265.out 0).trans rfl; have hcz47_1 : w46.cell? ⟨gb265, 1, none⟩ = some (.int .i64 t270) := (blk_cell BK265.out 1).trans rfl; have hcz47_2 : w46.cell? ⟨gb265, 2, none⟩ = some (.int .i64 t271) := (blk_cell BK265.out 2).trans rfl; have hcz47_3 : w46.cell? ⟨gb265, 3, none⟩ = some (.string t272) := (blk_cell BK265.out 3).trans rfl; have hcz47_4 : w46.cell? ⟨gb265, 4, none⟩ = some (.string t273) := (blk_cell BK265.out 4).trans rfl; have hfz47_0 := blk_frozen BK265.out 0; have hfz47_1 := blk_frozen BK265.out 1; have hfz47_2 := blk_frozen BK265.out 2; have hfz47_3 := blk_frozen BK265.out 3; have hfz47_4 := blk_frozen BK265.out 4; have hcz48_0 : w46.cell? ⟨gb267, 0, none⟩ = some (.string t279) := (blk_cell BK267.out 0).trans rfl; have hcz48_1 : w46.cell? ⟨gb267, 1, none⟩ = some (.int .i64 t280) := (blk_cell BK267.out 1).trans rfl; have hcz48_2 : w46.cell? ⟨gb267, 2, none⟩ = some (.int .i64 t281) := (blk_cell BK267.out 2).trans rfl; have hcz48_3 : w46.cell? ⟨gb267, 3, none⟩ = some (.string t282) := (blk_cell BK267.out 3).trans rfl; have hcz48_4 : w46.cell? ⟨gb267, 4, none⟩ = some (.string t283) := (blk_cell BK267.out 4).trans rfl; have hfz48_0 := blk_frozen BK267.out 0; have hfz48_1 := blk_frozen BK267.out 1; have hfz48_2 := blk_frozen BK267.out 2; have hfz48_3 := blk_frozen BK267.out 3; have hfz48_4 := blk_frozen BK267.out 4) | (go_at_call 17; (with_reducible refine (ikey_Less.calls t269 t270 t271 t272 t273 t279 t280 t281 t282 t283 t286 _ A37.out).mono ?_); rintro e w49 ⟨rfl, hb⟩; have n0_ := Aside0.mk (blk_below (g := gb265) (o := .cells #[.string t269, .int .i64 t270, .int .i64 t271, .string t272, .string t273] 23 (0, 0)) (by (with_reducible repeat (first | refine blk_drewN ?_ _ | refine blk_drew ?_ | refine blk_alloc ?_ _)); exact BK265.out) hb); have n1_ := Aside0.mk (blk_below (g := gb266) (o := .cells #[.string t274, .int .i64 t275, .int .i64 t276, .string t277, .string t278] 23 (0, 0)) (by (with_reducible repeat (first | refine blk_drewN ?_ _ | refine blk_drew ?_ | refine blk_alloc ?_ _)); exact BK266.out) hb); have n2_ := Aside0.mk (blk_below (g := gb267) (o := .cells #[.string t279, .int .i64 t280, .int .i64 t281, .string t282, .string t283] 23 (0, 0)) (by (with_reducible repeat (first | refine blk_drewN ?_ _ | refine blk_drew ?_ | refine blk_alloc ?_ _)); exact BK267.out) hb); have n3_ := Aside0.mk (below_step (by repeat (first | (with_reducible first | exact HB.out | apply below_alloc | apply pw_below_drewN | apply below_drew1 | refine below_set ?_ GE265.out | refine below_set ?_ GE266.out | refine below_set ?_ GE267.out) | exact HB.out)) hb); clear BK265; clear BK266; clear BK267; clear HB; have BK265 := n0_; have BK266 := n1_; have BK267 := n2_; have HB := n3_; clear n0_ n1_ n2_ n3_; (try clear hb); (try clear hb2); (try clear hk); (try clear hi)))
          go_meet
          case rel => exact ⟨_, (!t286), (by first | rfl | (simp; done) | (simp [*]; done)), H', ⟨by first | omega | exact Nat.le_refl _⟩, ⟨by (with_reducible repeat (first | refine blk_drewN ?_ _ | refine blk_drew ?_ | refine blk_alloc ?_ _)); exact BK265.out⟩, ⟨by (with_reducible repeat (first | refine blk_drewN ?_ _ | refine blk_drew ?_ | refine blk_alloc ?_ _)); exact BK266.out⟩, ⟨by (with_reducible repeat (first | refine blk_drewN ?_ _ | refine blk_drew ?_ | refine blk_alloc ?_ _)); exact BK267.out⟩, ⟨by repeat (first | (with_reducible first | exact HB.out | apply below_alloc | apply pw_below_drewN | apply below_drew1 | refine below_set ?_ GE265.out | refine below_set ?_ GE266.out | refine below_set ?_ GE267.out) | exact HB.out)⟩⟩
        · replace c36 := Bool.eq_false_iff.mpr c36
          subst c36
          have H1 : (incipitlaw7_EntryApart.j0 k false t269 t270 t271 t272 t273 t274 t275 t276 t277 t278) = some r := by rw [if_neg (show ¬ (false = true) by decide)] at H; exact H
          clear H
          have H := H1
          clear H1
          have H' := Aside0.mk H
          clear H
          have hnb50 := NB265_266.out
          have hnc50 := NB266_265.out
          have hnb51 := NB265_267.out
          have hnc51 := NB267_265.out
          have hcz52_0 : wst2.cell? ⟨gb265, 0, none⟩ = some (.string t269) := (blk_cell BK265.out 0).trans rfl
          have hcz52_1 : wst2.cell? ⟨gb265, 1, none⟩ = some (.int .i64 t270) := (blk_cell BK265.out 1).trans rfl
          have hcz52_2 : wst2.cell? ⟨gb265, 2, none⟩ = some (.int .i64 t271) := (blk_cell BK265.out 2).trans rfl
          have hcz52_3 : wst2.cell? ⟨gb265, 3, none⟩ = some (.string t272) := (blk_cell BK265.out 3).trans rfl
          have hcz52_4 : wst2.cell? ⟨gb265, 4, none⟩ = some (.string t273) := (blk_cell BK265.out 4).trans rfl
          have hfz52_0 := blk_frozen BK265.out 0
          have hfz52_1 := blk_frozen BK265.out 1
          have hfz52_2 := blk_frozen BK265.out 2
          have hfz52_3 := blk_frozen BK265.out 3
          have hfz52_4 := blk_frozen BK265.out 4
          have hnb53 := NB266_267.out
          have hnc53 := NB267_266.out
          have hcz54_0 : wst2.cell? ⟨gb266, 0, none⟩ = some (.string t274) := (blk_cell BK266.out 0).trans rfl
          have hcz54_1 : wst2.cell? ⟨gb266, 1, none⟩ = some (.int .i64 t275) := (blk_cell BK266.out 1).trans rfl
          have hcz54_2 : wst2.cell? ⟨gb266, 2, none⟩ = some (.int .i64 t276) := (blk_cell BK266.out 2).trans rfl
          have hcz54_3 : wst2.cell? ⟨gb266, 3, none⟩ = some (.string t277) := (blk_cell BK266.out 3).trans rfl
          have hcz54_4 : wst2.cell? ⟨gb266, 4, none⟩ = some (.string t278) := (blk_cell BK266.out 4).trans rfl
          have hfz54_0 := blk_frozen BK266.out 0
          have hfz54_1 := blk_frozen BK266.out 1
          have hfz54_2 := blk_frozen BK266.out 2
          have hfz54_3 := blk_frozen BK266.out 3
          have hfz54_4 := blk_frozen BK266.out 4
          go_wp2_with (first | ((with_reducible refine gate_callee (f := 17) rfl ?_); refine goesL_ (some 20) rfl rfl Try.func17 (by kernel_rfl) rfl #[.agg #[.string t269, .int .i64 t270, .int .i64 t271, .string t272, .string t273], .agg #[.string t274, .int .i64 t275, .int .i64 t276, .string t277, .string t278]] rfl (by (try simp only [List.map_toArray, List.map_cons, List.map_nil]); first | done | rfl | (simp only [List.length_drop, List.length_take]; rfl)) ?_; (with_reducible refine (ikey_Less.calls t269 t270 t271 t272 t273 t274 t275 t276 t277 t278 true _ A33.out).mono ?_); rintro e w55 ⟨rfl, hb⟩; refine ⟨_, rfl, ?_⟩; have n0_ := Aside0.mk (blk_below (g := gb265) (o := .cells #[.string t269, .int .i64 t270, .int .i64 t271, .string t272, .string t273] 23 (0, 0)) (by (with_reducible repeat (first | refine blk_drewN ?_ _ | refine blk_drew ?_ | refine blk_alloc ?_ _)); exact BK265.out) hb); have n1_ := Aside0.mk (blk_below (g := gb266) (o := .cells #[.string t274, .int .i64 t275, .int .i64 t276, .string t277, .string t278] 23 (0, 0)) (by (with_reducible repeat (first | refine blk_drewN ?_ _ | refine blk_drew ?_ | refine blk_alloc ?_ _)); exact BK266.out) hb); have n2_ := Aside0.mk (blk_below (g := gb267) (o := .cells #[.string t279, .int .i64 t280, .int .i64 t281, .string t282, .string t283] 23 (0, 0)) (by (with_reducible repeat (first | refine blk_drewN ?_ _ | refine blk_drew ?_ | refine blk_alloc ?_ _)); exact BK267.out) hb); have n3_ := Aside0.mk (below_step (by repeat (first | (with_reducible first | exact HB.out | apply below_alloc | apply pw_below_drewN | apply below_drew1 | refine below_set ?_ GE265.out | refine below_set ?_ GE266.out | refine below_set ?_ GE267.out) | exact HB.out)) hb); clear BK265; clear BK266; clear BK267; clear HB; have BK265 := n0_; have BK266 := n1_; have BK267 := n2_; have HB := n3_; clear n0_ n1_ n2_ n3_; (try clear hb); (try clear hb2); (try clear hk); (try clear hi); have hcz56_0 : w55.cell? ⟨gb266, 0, none⟩ = some (.string t274) := (blk_cell BK266.out 0).trans rfl; have hcz56_1 : w55.cell? ⟨gb266, 1, none⟩ = some (.int .i64 t275) := (blk_cell BK266.out 1).trans rfl; have hcz56_2 : w55.cell? ⟨gb266, 2, none⟩ = some (.int .i64 t276) := (blk_cell BK266.out 2).trans rfl; have hcz56_3 : w55.cell? ⟨gb266, 3, none⟩ = some (.string t277) := (blk_cell BK266.out 3).trans rfl; have hcz56_4 : w55.cell? ⟨gb266, 4, none⟩ = some (.string t278) := (blk_cell BK266.out 4).trans rfl; have hfz56_0 := blk_frozen BK266.out 0; have hfz56_1 := blk_frozen BK266.out 1; have hfz56_2 := blk_frozen BK266.out 2; have hfz56_3 := blk_frozen BK266.out 3; have hfz56_4 := blk_frozen BK266.out 4; have hcz57_0 : w55.cell? ⟨gb267, 0, none⟩ = some (.string t279) := (blk_cell BK267.out 0).trans rfl; have hcz57_1 : w55.cell? ⟨gb267, 1, none⟩ = some (.int .i64 t280) := (blk_cell BK267.out 1).trans rfl; have hcz57_2 : w55.cell? ⟨gb267, 2, none⟩ = some (.int .i64 t281) := (blk_cell BK267.out 2).trans rfl; have hcz57_3 : w55.cell? ⟨gb267, 3, none⟩ = some (.string t282) := (blk_cell BK267.out 3).trans rfl; have hcz57_4 : w55.cell? ⟨gb267, 4, none⟩ = some (.string t283) := (blk_cell BK267.out 4).trans rfl; have hfz57_0 := blk_frozen BK267.out 0; have hfz57_1 := blk_frozen BK267.out 1; have hfz57_2 := blk_frozen BK267.out 2; have hfz57_3 := blk_frozen BK267.out 3; have hfz57_4 := blk_frozen BK267.out 4) | (go_at_call 17; (with_reducible refine (ikey_Less.calls t274 t275 t276 t277 t278 t279 t280 t281 t282 t283 false _ A35.out).mono ?_); rintro e w58 ⟨rfl, hb⟩; have n0_ := Aside0.mk (blk_below (g := gb265) (o := .cells #[.string t269, .int .i64 t270, .int .i64 t271, .string t272, .string t273] 23 (0, 0)) (by (with_reducible repeat (first | refine blk_drewN ?_ _ | refine blk_drew ?_ | refine blk_alloc ?_ _)); exact BK265.out) hb); have n1_ := Aside0.mk (blk_below (g := gb266) (o := .cells #[.string t274, .int .i64 t275, .int .i64 t276, .string t277, .string t278] 23 (0, 0)) (by (with_reducible repeat (first | refine blk_drewN ?_ _ | refine blk_drew ?_ | refine blk_alloc ?_ _)); exact BK266.out) hb); have n2_ := Aside0.mk (blk_below (g := gb267) (o := .cells #[.string t279, .int .i64 t280, .int .i64 t281, .string t282, .string t283] 23 (0, 0)) (by (with_reducible repeat (first | refine blk_drewN ?_ _ | refine blk_drew ?_ | refine blk_alloc ?_ _)); exact BK267.out) hb); have n3_ := Aside0.mk (below_step (by repeat (first | (with_reducible first | exact HB.out | apply below_alloc | apply pw_below_drewN | apply below_drew1 | refine below_set ?_ GE265.out | refine below_set ?_ GE266.out | refine below_set ?_ GE267.out) | exact HB.out)) hb); clear BK265; clear BK266; clear BK267; clear HB; have BK265 := n0_; have BK266 := n1_; have BK267 := n2_; have HB := n3_; clear n0_ n1_ n2_ n3_; (try clear hb); (try clear hb2); (try clear hk); (try clear hi)))
          go_meet
          case rel => exact ⟨_, (false), (by first | rfl | (simp; done) | (simp [*]; done)), H', ⟨by first | omega | exact Nat.le_refl _⟩, ⟨by (with_reducible repeat (first | refine blk_drewN ?_ _ | refine blk_drew ?_ | refine blk_alloc ?_ _)); exact BK265.out⟩, ⟨by (with_reducible repeat (first | refine blk_drewN ?_ _ | refine blk_drew ?_ | refine blk_alloc ?_ _)); exact BK266.out⟩, ⟨by (with_reducible repeat (first | refine blk_drewN ?_ _ | refine blk_drew ?_ | refine blk_alloc ?_ _)); exact BK267.out⟩, ⟨by repeat (first | (with_reducible first | exact HB.out | apply below_alloc | apply pw_below_drewN | apply below_drew1 | refine below_set ?_ GE265.out | refine below_set ?_ GE266.out | refine below_set ?_ GE267.out) | exact HB.out)⟩⟩
      · replace c34 := Bool.eq_false_iff.mpr c34
        subst c34
        have H1 : (incipitlaw7_EntryApart.j0 k false t269 t270 t271 t272 t273 t274 t275 t276 t277 t278) = some r := by rw [if_neg (show ¬ (false = true) by decide)] at H; exact H
        clear H
        have H := H1
        clear H1
        have H' := Aside0.mk H
        clear H
        have hnb59 := NB265_266.out
        have hnc59 := NB266_265.out
        have hnb60 := NB265_267.out
        have hnc60 := NB267_265.out
        have hcz61_0 : wst2.cell? ⟨gb265, 0, none⟩ = some (.string t269) := (blk_cell BK265.out 0).trans rfl
        have hcz61_1 : wst2.cell? ⟨gb265, 1, none⟩ = some (.int .i64 t270) := (blk_cell BK265.out 1).trans rfl
        have hcz61_2 : wst2.cell? ⟨gb265, 2, none⟩ = some (.int .i64 t271) := (blk_cell BK265.out 2).trans rfl
        have hcz61_3 : wst2.cell? ⟨gb265, 3, none⟩ = some (.string t272) := (blk_cell BK265.out 3).trans rfl
        have hcz61_4 : wst2.cell? ⟨gb265, 4, none⟩ = some (.string t273) := (blk_cell BK265.out 4).trans rfl
        have hfz61_0 := blk_frozen BK265.out 0
        have hfz61_1 := blk_frozen BK265.out 1
        have hfz61_2 := blk_frozen BK265.out 2
        have hfz61_3 := blk_frozen BK265.out 3
        have hfz61_4 := blk_frozen BK265.out 4
        have hnb62 := NB266_267.out
        have hnc62 := NB267_266.out
        have hcz63_0 : wst2.cell? ⟨gb266, 0, none⟩ = some (.string t274) := (blk_cell BK266.out 0).trans rfl
        have hcz63_1 : wst2.cell? ⟨gb266, 1, none⟩ = some (.int .i64 t275) := (blk_cell BK266.out 1).trans rfl
        have hcz63_2 : wst2.cell? ⟨gb266, 2, none⟩ = some (.int .i64 t276) := (blk_cell BK266.out 2).trans rfl
        have hcz63_3 : wst2.cell? ⟨gb266, 3, none⟩ = some (.string t277) := (blk_cell BK266.out 3).trans rfl
        have hcz63_4 : wst2.cell? ⟨gb266, 4, none⟩ = some (.string t278) := (blk_cell BK266.out 4).trans rfl
        have hfz63_0 := blk_frozen BK266.out 0
        have hfz63_1 := blk_frozen BK266.out 1
        have hfz63_2 := blk_frozen BK266.out 2
        have hfz63_3 := blk_frozen BK266.out 3
        have hfz63_4 := blk_frozen BK266.out 4
        go_wp2_with (first | ((with_reducible refine gate_callee (f := 17) rfl ?_); refine goesL_ (some 20) rfl rfl Try.func17 (by kernel_rfl) rfl #[.agg #[.string t269, .int .i64 t270, .int .i64 t271, .string t272, .string t273], .agg #[.string t274, .int .i64 t275, .int .i64 t276, .string t277, .string t278]] rfl (by (try simp only [List.map_toArray, List.map_cons, List.map_nil]); first | done | rfl | (simp only [List.length_drop, List.length_take]; rfl)) ?_; (with_reducible refine (ikey_Less.calls t269 t270 t271 t272 t273 t274 t275 t276 t277 t278 false _ A33.out).mono ?_); rintro e w64 ⟨rfl, hb⟩; refine ⟨_, rfl, ?_⟩; have n0_ := Aside0.mk (blk_below (g := gb265) (o := .cells #[.string t269, .int .i64 t270, .int .i64 t271, .string t272, .string t273] 23 (0, 0)) (by (with_reducible repeat (first | refine blk_drewN ?_ _ | refine blk_drew ?_ | refine blk_alloc ?_ _)); exact BK265.out) hb); have n1_ := Aside0.mk (blk_below (g := gb266) (o := .cells #[.string t274, .int .i64 t275, .int .i64 t276, .string t277, .string t278] 23 (0, 0)) (by (with_reducible repeat (first | refine blk_drewN ?_ _ | refine blk_drew ?_ | refine blk_alloc ?_ _)); exact BK266.out) hb); have n2_ := Aside0.mk (blk_below (g := gb267) (o := .cells #[.string t279, .int .i64 t280, .int .i64 t281, .string t282, .string t283] 23 (0, 0)) (by (with_reducible repeat (first | refine blk_drewN ?_ _ | refine blk_drew ?_ | refine blk_alloc ?_ _)); exact BK267.out) hb); have n3_ := Aside0.mk (below_step (by repeat (first | (with_reducible first | exact HB.out | apply below_alloc | apply pw_below_drewN | apply below_drew1 | refine below_set ?_ GE265.out | refine below_set ?_ GE266.out | refine below_set ?_ GE267.out) | exact HB.out)) hb); clear BK265; clear BK266; clear BK267; clear HB; have BK265 := n0_; have BK266 := n1_; have BK267 := n2_; have HB := n3_; clear n0_ n1_ n2_ n3_; (try clear hb); (try clear hb2); (try clear hk); (try clear hi)))
        go_meet
        case rel => exact ⟨_, (false), (by first | rfl | (simp; done) | (simp [*]; done)), H', ⟨by first | omega | exact Nat.le_refl _⟩, ⟨by (with_reducible repeat (first | refine blk_drewN ?_ _ | refine blk_drew ?_ | refine blk_alloc ?_ _)); exact BK265.out⟩, ⟨by (with_reducible repeat (first | refine blk_drewN ?_ _ | refine blk_drew ?_ | refine blk_alloc ?_ _)); exact BK266.out⟩, ⟨by (with_reducible repeat (first | refine blk_drewN ?_ _ | refine blk_drew ?_ | refine blk_alloc ?_ _)); exact BK267.out⟩, ⟨by repeat (first | (with_reducible first | exact HB.out | apply below_alloc | apply pw_below_drewN | apply below_drew1 | refine below_set ?_ GE265.out | refine below_set ?_ GE266.out | refine below_set ?_ GE267.out) | exact HB.out)⟩⟩
    case rest =>
      clear HC9
      try clear c1
      try clear p2
      try clear c3
      try clear c4
      try clear c5
      try clear c6
      try clear c15
      try clear c16
      try clear c17
      try clear c34
      try clear c36
      try clear c38
      try clear c39
      try clear c41
      try clear c50
      try clear c51
      try clear c53
      try clear c59
      try clear c60
      try clear c62
      try clear hcz40_0
      try clear hcz40_1
      try clear hcz40_2
      try clear hcz40_3
      try clear hcz40_4
      try clear hcz42_0
      try clear hcz42_1
      try clear hcz42_2
      try clear hcz42_3
      try clear hcz42_4
      try clear hcz44_0
      try clear hcz44_1
      try clear hcz44_2
      try clear hcz44_3
      try clear hcz44_4
      try clear hcz45_0
      try clear hcz45_1
      try clear hcz45_2
      try clear hcz45_3
      try clear hcz45_4
      try clear hcz47_0
      try clear hcz47_1
      try clear hcz47_2
      try clear hcz47_3
      try clear hcz47_4
      try clear hcz48_0
      try clear hcz48_1
      try clear hcz48_2
      try clear hcz48_3
      try clear hcz48_4
      try clear hcz52_0
      try clear hcz52_1
      try clear hcz52_2
      try clear hcz52_3
      try clear hcz52_4
      try clear hcz54_0
      try clear hcz54_1
      try clear hcz54_2
      try clear hcz54_3
      try clear hcz54_4
      try clear hcz56_0
      try clear hcz56_1
      try clear hcz56_2
      try clear hcz56_3
      try clear hcz56_4
      try clear hcz57_0
      try clear hcz57_1
      try clear hcz57_2
      try clear hcz57_3
      try clear hcz57_4
      try clear hcz61_0
      try clear hcz61_1
      try clear hcz61_2
      try clear hcz61_3
      try clear hcz61_4
      try clear hcz63_0
      try clear hcz63_1
      try clear hcz63_2
      try clear hcz63_3
      try clear hcz63_4
      try clear hfz40_0
      try clear hfz40_1
      try clear hfz40_2
      try clear hfz40_3
      try clear hfz40_4
      try clear hfz42_0
      try clear hfz42_1
      try clear hfz42_2
      try clear hfz42_3
      try clear hfz42_4
      try clear hfz44_0
      try clear hfz44_1
      try clear hfz44_2
      try clear hfz44_3
      try clear hfz44_4
      try clear hfz45_0
      try clear hfz45_1
      try clear hfz45_2
      try clear hfz45_3
      try clear hfz45_4
      try clear hfz47_0
      try clear hfz47_1
      try clear hfz47_2
      try clear hfz47_3
      try clear hfz47_4
      try clear hfz48_0
      try clear hfz48_1
      try clear hfz48_2
      try clear hfz48_3
      try clear hfz48_4
      try clear hfz52_0
      try clear hfz52_1
      try clear hfz52_2
      try clear hfz52_3
      try clear hfz52_4
      try clear hfz54_0
      try clear hfz54_1
      try clear hfz54_2
      try clear hfz54_3
      try clear hfz54_4
      try clear hfz56_0
      try clear hfz56_1
      try clear hfz56_2
      try clear hfz56_3
      try clear hfz56_4
      try clear hfz57_0
      try clear hfz57_1
      try clear hfz57_2
      try clear hfz57_3
      try clear hfz57_4
      try clear hfz61_0
      try clear hfz61_1
      try clear hfz61_2
      try clear hfz61_3
      try clear hfz61_4
      try clear hfz63_0
      try clear hfz63_1
      try clear hfz63_2
      try clear hfz63_3
      try clear hfz63_4
      obtain ⟨kq, x31_8, rfl, HA, HJ8, BK265, BK266, BK267, HB⟩ := hcut
      cases kq with
      | zero => exact absurd HA.out (by simp [incipitlaw7_EntryApart.j0])
      | succ kj8 =>
        have H := HA.out
        clear HA
        simp only [incipitlaw7_EntryApart.j0] at H
        by_cases c65 : x31_8 = true
        · subst c65
          have H1 : (some false) = some r := by rw [if_pos rfl] at H; exact H
          clear H
          have H := H1
          clear H1
          obtain rfl := Option.some.inj H
          exact absurd HRT.out (by decide)
        · replace c65 := Bool.eq_false_iff.mpr c65
          subst c65
          have H1 : (if t269.toList = t274.toList then (if t270 = t275 then (incipitlaw7_EntryApart.j1 kj8 (t271 == t276) t269 t270 t271 t272 t273 t274 t275 t276 t277 t278) else (incipitlaw7_EntryApart.j1 kj8 false t269 t270 t271 t272 t273 t274 t275 t276 t277 t278)) else (incipitlaw7_EntryApart.j1 kj8 false t269 t270 t271 t272 t273 t274 t275 t276 t277 t278)) = some r := by rw [if_neg (show ¬ (false = true) by decide)] at H; exact H
          clear H
          have H := H1
          clear H1
          have HC66 := Aside0.mk H
          clear H
          go_upto_region 7 with (fail)
          go_cut [8] (fun v8 wc => ∃ (kq : Nat) (x8_65 : Bool), v8 = .bool x8_65 ∧ Aside0 (incipitlaw7_EntryApart.j1 kq x8_65 t269 t270 t271 t272 t273 t274 t275 t276 t277 t278 = some r) ∧ Aside0 (kq ≤ kj8) ∧ Aside0 (wc.heap[gb265]? = some (.cells #[.string t269, .int .i64 t270, .int .i64 t271, .string t272, .string t273] 23 (0, 0))) ∧ Aside0 (wc.heap[gb266]? = some (.cells #[.string t274, .int .i64 t275, .int .i64 t276, .string t277, .string t278] 23 (0, 0))) ∧ Aside0 (wc.heap[gb267]? = some (.cells #[.string t279, .int .i64 t280, .int .i64 t281, .string t282, .string t283] 23 (0, 0))) ∧ Aside0 (Below w.heap.size w wc))
          case first =>
            have H := HC66.out
            clear HC66
            by_cases c67 : t269.toList = t274.toList
            · rw [if_pos c67] at H
              have c67b0 : (t269.toList == t274.toList) = true := beq_iff_eq.mpr c67
              have c67b1 : (t269.toList != t274.toList) = false := bne_eq_false_iff_eq.mpr c67
              clear c67
              (first | rw [c67b0] | (simp only [i64_w, i32_w]; rw [c67b0]) | skip)
              by_cases c68 : t270 = t275
              · rw [if_pos c68] at H
                have c68b0 : (t270 == t275) = true := beq_iff_eq.mpr c68
                have c68b1 : (t270 != t275) = false := bne_eq_false_iff_eq.mpr c68
                clear c68
                have H' := Aside0.mk H
                clear H
                have hnb69 := NB265_266.out
                have hnc69 := NB266_265.out
                have hnb70 := NB265_267.out
                have hnc70 := NB267_265.out
                have hcz71_0 : wc.cell? ⟨gb265, 0, none⟩ = some (.string t269) := (blk_cell BK265.out 0).trans rfl
                have hcz71_1 : wc.cell? ⟨gb265, 1, none⟩ = some (.int .i64 t270) := (blk_cell BK265.out 1).trans rfl
                have hcz71_2 : wc.cell? ⟨gb265, 2, none⟩ = some (.int .i64 t271) := (blk_cell BK265.out 2).trans rfl
                have hcz71_3 : wc.cell? ⟨gb265, 3, none⟩ = some (.string t272) := (blk_cell BK265.out 3).trans rfl
                have hcz71_4 : wc.cell? ⟨gb265, 4, none⟩ = some (.string t273) := (blk_cell BK265.out 4).trans rfl
                have hfz71_0 := blk_frozen BK265.out 0
                have hfz71_1 := blk_frozen BK265.out 1
                have hfz71_2 := blk_frozen BK265.out 2
                have hfz71_3 := blk_frozen BK265.out 3
                have hfz71_4 := blk_frozen BK265.out 4
                have hnb72 := NB266_267.out
                have hnc72 := NB267_266.out
                have hcz73_0 : wc.cell? ⟨gb266, 0, none⟩ = some (.string t274) := (blk_cell BK266.out 0).trans rfl
                have hcz73_1 : wc.cell? ⟨gb266, 1, none⟩ = some (.int .i64 t275) := (blk_cell BK266.out 1).trans rfl
                have hcz73_2 : wc.cell? ⟨gb266, 2, none⟩ = some (.int .i64 t276) := (blk_cell BK266.out 2).trans rfl
                have hcz73_3 : wc.cell? ⟨gb266, 3, none⟩ = some (.string t277) := (blk_cell BK266.out 3).trans rfl
                have hcz73_4 : wc.cell? ⟨gb266, 4, none⟩ = some (.string t278) := (blk_cell BK266.out 4).trans rfl
                have hfz73_0 := blk_frozen BK266.out 0
                have hfz73_1 := blk_frozen BK266.out 1
                have hfz73_2 := blk_frozen BK266.out 2
                have hfz73_3 := blk_frozen BK266.out 3
                have hfz73_4 := blk_frozen BK266.out 4
                go_wp2
                go_meet
                case rel => exact ⟨_, ((t271 == t276)), (by first | rfl | (simp; done) | (simp [*]; done)), H', ⟨by have := HJ8.out; first | omega | exact Nat.le_refl _⟩, ⟨by (with_reducible repeat (first | refine blk_drewN ?_ _ | refine blk_drew ?_ | refine blk_alloc ?_ _)); exact BK265.out⟩, ⟨by (with_reducible repeat (first | refine blk_drewN ?_ _ | refine blk_drew ?_ | refine blk_alloc ?_ _)); exact BK266.out⟩, ⟨by (with_reducible repeat (first | refine blk_drewN ?_ _ | refine blk_drew ?_ | refine blk_alloc ?_ _)); exact BK267.out⟩, ⟨by repeat (first | (with_reducible first | exact HB.out | apply below_alloc | apply pw_below_drewN | apply below_drew1 | refine below_set ?_ GE265.out | refine below_set ?_ GE266.out | refine below_set ?_ GE267.out) | exact HB.out)⟩⟩
              · rw [if_neg c68] at H
                have c68b0 : (t270 == t275) = false := beq_eq_false_iff_ne.mpr c68
                have c68b1 : (t270 != t275) = true := bne_iff_ne.mpr c68
                have H' := Aside0.mk H
                clear H
                have hnb74 := NB265_266.out
                have hnc74 := NB266_265.out
                have hnb75 := NB265_267.out
                have hnc75 := NB267_265.out
                have hcz76_0 : wc.cell? ⟨gb265, 0, none⟩ = some (.string t269) := (blk_cell BK265.out 0).trans rfl
                have hcz76_1 : wc.cell? ⟨gb265, 1, none⟩ = some (.int .i64 t270) := (blk_cell BK265.out 1).trans rfl
                have hcz76_2 : wc.cell? ⟨gb265, 2, none⟩ = some (.int .i64 t271) := (blk_cell BK265.out 2).trans rfl
                have hcz76_3 : wc.cell? ⟨gb265, 3, none⟩ = some (.string t272) := (blk_cell BK265.out 3).trans rfl
                have hcz76_4 : wc.cell? ⟨gb265, 4, none⟩ = some (.string t273) := (blk_cell BK265.out 4).trans rfl
                have hfz76_0 := blk_frozen BK265.out 0
                have hfz76_1 := blk_frozen BK265.out 1
                have hfz76_2 := blk_frozen BK265.out 2
                have hfz76_3 := blk_frozen BK265.out 3
                have hfz76_4 := blk_frozen BK265.out 4
                have hnb77 := NB266_267.out
                have hnc77 := NB267_266.out
                have hcz78_0 : wc.cell? ⟨gb266, 0, none⟩ = some (.string t274) := (blk_cell BK266.out 0).trans rfl
                have hcz78_1 : wc.cell? ⟨gb266, 1, none⟩ = some (.int .i64 t275) := (blk_cell BK266.out 1).trans rfl
                have hcz78_2 : wc.cell? ⟨gb266, 2, none⟩ = some (.int .i64 t276) := (blk_cell BK266.out 2).trans rfl
                have hcz78_3 : wc.cell? ⟨gb266, 3, none⟩ = some (.string t277) := (blk_cell BK266.out 3).trans rfl
                have hcz78_4 : wc.cell? ⟨gb266, 4, none⟩ = some (.string t278) := (blk_cell BK266.out 4).trans rfl
                have hfz78_0 := blk_frozen BK266.out 0
                have hfz78_1 := blk_frozen BK266.out 1
                have hfz78_2 := blk_frozen BK266.out 2
                have hfz78_3 := blk_frozen BK266.out 3
                have hfz78_4 := blk_frozen BK266.out 4
                go_wp2
                go_meet
                case rel => exact ⟨_, (false), (by first | rfl | (simp; done) | (simp [*]; done)), H', ⟨by have := HJ8.out; first | omega | exact Nat.le_refl _⟩, ⟨by (with_reducible repeat (first | refine blk_drewN ?_ _ | refine blk_drew ?_ | refine blk_alloc ?_ _)); exact BK265.out⟩, ⟨by (with_reducible repeat (first | refine blk_drewN ?_ _ | refine blk_drew ?_ | refine blk_alloc ?_ _)); exact BK266.out⟩, ⟨by (with_reducible repeat (first | refine blk_drewN ?_ _ | refine blk_drew ?_ | refine blk_alloc ?_ _)); exact BK267.out⟩, ⟨by repeat (first | (with_reducible first | exact HB.out | apply below_alloc | apply pw_below_drewN | apply below_drew1 | refine below_set ?_ GE265.out | refine below_set ?_ GE266.out | refine below_set ?_ GE267.out) | exact HB.out)⟩⟩
            · rw [if_neg c67] at H
              have c67b0 : (t269.toList == t274.toList) = false := beq_eq_false_iff_ne.mpr c67
              have c67b1 : (t269.toList != t274.toList) = true := bne_iff_ne.mpr c67
              (first | rw [c67b0] | (simp only [i64_w, i32_w]; rw [c67b0]) | skip)
              have H' := Aside0.mk H
              clear H
              have hnb79 := NB265_266.out
              have hnc79 := NB266_265.out
              have hnb80 := NB265_267.out
              have hnc80 := NB267_265.out
              have hcz81_0 : wc.cell? ⟨gb265, 0, none⟩ = some (.string t269) := (blk_cell BK265.out 0).trans rfl
              have hcz81_1 : wc.cell? ⟨gb265, 1, none⟩ = some (.int .i64 t270) := (blk_cell BK265.out 1).trans rfl
              have hcz81_2 : wc.cell? ⟨gb265, 2, none⟩ = some (.int .i64 t271) := (blk_cell BK265.out 2).trans rfl
              have hcz81_3 : wc.cell? ⟨gb265, 3, none⟩ = some (.string t272) := (blk_cell BK265.out 3).trans rfl
              have hcz81_4 : wc.cell? ⟨gb265, 4, none⟩ = some (.string t273) := (blk_cell BK265.out 4).trans rfl
              have hfz81_0 := blk_frozen BK265.out 0
              have hfz81_1 := blk_frozen BK265.out 1
              have hfz81_2 := blk_frozen BK265.out 2
              have hfz81_3 := blk_frozen BK265.out 3
              have hfz81_4 := blk_frozen BK265.out 4
              have hnb82 := NB266_267.out
              have hnc82 := NB267_266.out
              have hcz83_0 : wc.cell? ⟨gb266, 0, none⟩ = some (.string t274) := (blk_cell BK266.out 0).trans rfl
              have hcz83_1 : wc.cell? ⟨gb266, 1, none⟩ = some (.int .i64 t275) := (blk_cell BK266.out 1).trans rfl
              have hcz83_2 : wc.cell? ⟨gb266, 2, none⟩ = some (.int .i64 t276) := (blk_cell BK266.out 2).trans rfl
              have hcz83_3 : wc.cell? ⟨gb266, 3, none⟩ = some (.string t277) := (blk_cell BK266.out 3).trans rfl
              have hcz83_4 : wc.cell? ⟨gb266, 4, none⟩ = some (.string t278) := (blk_cell BK266.out 4).trans rfl
              have hfz83_0 := blk_frozen BK266.out 0
              have hfz83_1 := blk_frozen BK266.out 1
              have hfz83_2 := blk_frozen BK266.out 2
              have hfz83_3 := blk_frozen BK266.out 3
              have hfz83_4 := blk_frozen BK266.out 4
              go_wp2
              go_meet
              case rel => exact ⟨_, (false), (by first | rfl | (simp; done) | (simp [*]; done)), H', ⟨by have := HJ8.out; first | omega | exact Nat.le_refl _⟩, ⟨by (with_reducible repeat (first | refine blk_drewN ?_ _ | refine blk_drew ?_ | refine blk_alloc ?_ _)); exact BK265.out⟩, ⟨by (with_reducible repeat (first | refine blk_drewN ?_ _ | refine blk_drew ?_ | refine blk_alloc ?_ _)); exact BK266.out⟩, ⟨by (with_reducible repeat (first | refine blk_drewN ?_ _ | refine blk_drew ?_ | refine blk_alloc ?_ _)); exact BK267.out⟩, ⟨by repeat (first | (with_reducible first | exact HB.out | apply below_alloc | apply pw_below_drewN | apply below_drew1 | refine below_set ?_ GE265.out | refine below_set ?_ GE266.out | refine below_set ?_ GE267.out) | exact HB.out)⟩⟩
          case rest =>
            clear HC66
            try clear c1
            try clear p2
            try clear c3
            try clear c4
            try clear c5
            try clear c6
            try clear c7
            try clear c8
            try clear c15
            try clear c16
            try clear c17
            try clear c34
            try clear c36
            try clear c38
            try clear c39
            try clear c41
            try clear c50
            try clear c51
            try clear c53
            try clear c59
            try clear c60
            try clear c62
            try clear c65
            try clear c67
            try clear c67b0
            try clear c67b1
            try clear c68
            try clear c68b0
            try clear c68b1
            try clear c69
            try clear c70
            try clear c72
            try clear c74
            try clear c75
            try clear c77
            try clear c79
            try clear c80
            try clear c82
            try clear hcz40_0
            try clear hcz40_1
            try clear hcz40_2
            try clear hcz40_3
            try clear hcz40_4
            try clear hcz42_0
            try clear hcz42_1
            try clear hcz42_2
            try clear hcz42_3
            try clear hcz42_4
            try clear hcz44_0
            try clear hcz44_1
            try clear hcz44_2
            try clear hcz44_3
            try clear hcz44_4
            try clear hcz45_0
            try clear hcz45_1
            try clear hcz45_2
            try clear hcz45_3
            try clear hcz45_4
            try clear hcz47_0
            try clear hcz47_1
            try clear hcz47_2
            try clear hcz47_3
            try clear hcz47_4
            try clear hcz48_0
            try clear hcz48_1
            try clear hcz48_2
            try clear hcz48_3
            try clear hcz48_4
            try clear hcz52_0
            try clear hcz52_1
            try clear hcz52_2
            try clear hcz52_3
            try clear hcz52_4
            try clear hcz54_0
            try clear hcz54_1
            try clear hcz54_2
            try clear hcz54_3
            try clear hcz54_4
            try clear hcz56_0
            try clear hcz56_1
            try clear hcz56_2
            try clear hcz56_3
            try clear hcz56_4
            try clear hcz57_0
            try clear hcz57_1
            try clear hcz57_2
            try clear hcz57_3
            try clear hcz57_4
            try clear hcz61_0
            try clear hcz61_1
            try clear hcz61_2
            try clear hcz61_3
            try clear hcz61_4
            try clear hcz63_0
            try clear hcz63_1
            try clear hcz63_2
            try clear hcz63_3
            try clear hcz63_4
            try clear hcz71_0
            try clear hcz71_1
            try clear hcz71_2
            try clear hcz71_3
            try clear hcz71_4
            try clear hcz73_0
            try clear hcz73_1
            try clear hcz73_2
            try clear hcz73_3
            try clear hcz73_4
            try clear hcz76_0
            try clear hcz76_1
            try clear hcz76_2
            try clear hcz76_3
            try clear hcz76_4
            try clear hcz78_0
            try clear hcz78_1
            try clear hcz78_2
            try clear hcz78_3
            try clear hcz78_4
            try clear hcz81_0
            try clear hcz81_1
            try clear hcz81_2
            try clear hcz81_3
            try clear hcz81_4
            try clear hcz83_0
            try clear hcz83_1
            try clear hcz83_2
            try clear hcz83_3
            try clear hcz83_4
            try clear hfz40_0
            try clear hfz40_1
            try clear hfz40_2
            try clear hfz40_3
            try clear hfz40_4
            try clear hfz42_0
            try clear hfz42_1
            try clear hfz42_2
            try clear hfz42_3
            try clear hfz42_4
            try clear hfz44_0
            try clear hfz44_1
            try clear hfz44_2
            try clear hfz44_3
            try clear hfz44_4
            try clear hfz45_0
            try clear hfz45_1
            try clear hfz45_2
            try clear hfz45_3
            try clear hfz45_4
            try clear hfz47_0
            try clear hfz47_1
            try clear hfz47_2
            try clear hfz47_3
            try clear hfz47_4
            try clear hfz48_0
            try clear hfz48_1
            try clear hfz48_2
            try clear hfz48_3
            try clear hfz48_4
            try clear hfz52_0
            try clear hfz52_1
            try clear hfz52_2
            try clear hfz52_3
            try clear hfz52_4
            try clear hfz54_0
            try clear hfz54_1
            try clear hfz54_2
            try clear hfz54_3
            try clear hfz54_4
            try clear hfz56_0
            try clear hfz56_1
            try clear hfz56_2
            try clear hfz56_3
            try clear hfz56_4
            try clear hfz57_0
            try clear hfz57_1
            try clear hfz57_2
            try clear hfz57_3
            try clear hfz57_4
            try clear hfz61_0
            try clear hfz61_1
            try clear hfz61_2
            try clear hfz61_3
            try clear hfz61_4
            try clear hfz63_0
            try clear hfz63_1
            try clear hfz63_2
            try clear hfz63_3
            try clear hfz63_4
            try clear hfz71_0
            try clear hfz71_1
            try clear hfz71_2
            try clear hfz71_3
            try clear hfz71_4
            try clear hfz73_0
            try clear hfz73_1
            try clear hfz73_2
            try clear hfz73_3
            try clear hfz73_4
            try clear hfz76_0
            try clear hfz76_1
            try clear hfz76_2
            try clear hfz76_3
            try clear hfz76_4
            try clear hfz78_0
            try clear hfz78_1
            try clear hfz78_2
            try clear hfz78_3
            try clear hfz78_4
            try clear hfz81_0
            try clear hfz81_1
            try clear hfz81_2
            try clear hfz81_3
            try clear hfz81_4
            try clear hfz83_0
            try clear hfz83_1
            try clear hfz83_2
            try clear hfz83_3
            try clear hfz83_4
            try clear p2
            obtain ⟨kq, x8_65, rfl, HA, HJ65, BK265, BK266, BK267, HB⟩ := hcut
            cases kq with
            | zero => exact absurd HA.out (by simp [incipitlaw7_EntryApart.j1])
            | succ kj65 =>
              have H := HA.out
              clear HA
              simp only [incipitlaw7_EntryApart.j1] at H
              have HC84 := Aside0.mk H
              clear H
              go_upto_region 8 with (fail)
              go_cut [58] (fun v58 wc => ∃ (kq : Nat) (x58_83 : Bool), v58 = .bool x58_83 ∧ Aside0 (incipitlaw7_EntryApart.j2 kq x8_65 x58_83 t269 t270 t271 t272 t273 t274 t275 t276 t277 t278 = some r) ∧ Aside0 (kq ≤ kj65) ∧ Aside0 (wc.heap[gb265]? = some (.cells #[.string t269, .int .i64 t270, .int .i64 t271, .string t272, .string t273] 23 (0, 0))) ∧ Aside0 (wc.heap[gb266]? = some (.cells #[.string t274, .int .i64 t275, .int .i64 t276, .string t277, .string t278] 23 (0, 0))) ∧ Aside0 (wc.heap[gb267]? = some (.cells #[.string t279, .int .i64 t280, .int .i64 t281, .string t282, .string t283] 23 (0, 0))) ∧ Aside0 (Below w.heap.size w wc))
              case first =>
                have H := HC84.out
                clear HC84
                replace H := Option.bind_eq_some_iff.mp H
                obtain ⟨t287, A850, H⟩ := H
                replace H : (if t287 = true then ((ikey_Less.f t274 t275 t276 t277 t278 t269 t270 t271 t272 t273).bind fun t288 => (incipitlaw7_EntryApart.j2 kj65 x8_65 t288 t269 t270 t271 t272 t273 t274 t275 t276 t277 t278)) else (incipitlaw7_EntryApart.j2 kj65 x8_65 false t269 t270 t271 t272 t273 t274 t275 t276 t277 t278)) = some r := H
                have A85 := Aside0.mk A850
                clear A850
                by_cases c86 : t287 = true
                · subst c86
                  have H1 : ((ikey_Less.f t274 t275 t276 t277 t278 t269 t270 t271 t272 t273).bind fun t288 => (incipitlaw7_EntryApart.j2 kj65 x8_65 t288 t269 t270 t271 t272 t273 t274 t275 t276 t277 t278)) = some r := by rw [if_pos rfl] at H; exact H
                  clear H
                  have H := H1
                  clear H1
                  replace H := Option.bind_eq_some_iff.mp H
                  obtain ⟨t288, A870, H⟩ := H
                  replace H : (incipitlaw7_EntryApart.j2 kj65 x8_65 t288 t269 t270 t271 t272 t273 t274 t275 t276 t277 t278) = some r := H
                  have A87 := Aside0.mk A870
                  clear A870
                  have H' := Aside0.mk H
                  clear H
                  have hnb88 := NB265_266.out
                  have hnc88 := NB266_265.out
                  have hnb89 := NB265_267.out
                  have hnc89 := NB267_265.out
                  have hcz90_0 : wc.cell? ⟨gb265, 0, none⟩ = some (.string t269) := (blk_cell BK265.out 0).trans rfl
                  have hcz90_1 : wc.cell? ⟨gb265, 1, none⟩ = some (.int .i64 t270) := (blk_cell BK265.out 1).trans rfl
                  have hcz90_2 : wc.cell? ⟨gb265, 2, none⟩ = some (.int .i64 t271) := (blk_cell BK265.out 2).trans rfl
                  have hcz90_3 : wc.cell? ⟨gb265, 3, none⟩ = some (.string t272) := (blk_cell BK265.out 3).trans rfl
                  have hcz90_4 : wc.cell? ⟨gb265, 4, none⟩ = some (.string t273) := (blk_cell BK265.out 4).trans rfl
                  have hfz90_0 := blk_frozen BK265.out 0
                  have hfz90_1 := blk_frozen BK265.out 1
                  have hfz90_2 := blk_frozen BK265.out 2
                  have hfz90_3 := blk_frozen BK265.out 3
                  have hfz90_4 := blk_frozen BK265.out 4
                  have hnb91 := NB266_267.out
                  have hnc91 := NB267_266.out
                  have hcz92_0 : wc.cell? ⟨gb266, 0, none⟩ = some (.string t274) := (blk_cell BK266.out 0).trans rfl
                  have hcz92_1 : wc.cell? ⟨gb266, 1, none⟩ = some (.int .i64 t275) := (blk_cell BK266.out 1).trans rfl
                  have hcz92_2 : wc.cell? ⟨gb266, 2, none⟩ = some (.int .i64 t276) := (blk_cell BK266.out 2).trans rfl
                  have hcz92_3 : wc.cell? ⟨gb266, 3, none⟩ = some (.string t277) := (blk_cell BK266.out 3).trans rfl
                  have hcz92_4 : wc.cell? ⟨gb266, 4, none⟩ = some (.string t278) := (blk_cell BK266.out 4).trans rfl
                  have hfz92_0 := blk_frozen BK266.out 0
                  have hfz92_1 := blk_frozen BK266.out 1
                  have hfz92_2 := blk_frozen BK266.out 2
                  have hfz92_3 := blk_frozen BK266.out 3
                  have hfz92_4 := blk_frozen BK266.out 4
                  go_wp2_with (first | ((with_reducible refine gate_callee (f := 17) rfl ?_); refine goesL_ (some 53) rfl rfl Try.func17 (by kernel_rfl) rfl #[.agg #[.string t269, .int .i64 t270, .int .i64 t271, .string t272, .string t273], .agg #[.string t274, .int .i64 t275, .int .i64 t276, .string t277, .string t278]] rfl (by (try simp only [List.map_toArray, List.map_cons, List.map_nil]); first | done | rfl | (simp only [List.length_drop, List.length_take]; rfl)) ?_; (with_reducible refine (ikey_Less.calls t269 t270 t271 t272 t273 t274 t275 t276 t277 t278 true _ A85.out).mono ?_); rintro e w93 ⟨rfl, hb⟩; refine ⟨_, rfl, ?_⟩; have n0_ := Aside0.mk (blk_below (g := gb265) (o := .cells #[.string t269, .int .i64 t270, .int .i64 t271, .string t272, .string t273] 23 (0, 0)) (by (with_reducible repeat (first | refine blk_drewN ?_ _ | refine blk_drew ?_ | refine blk_alloc ?_ _)); exact BK265.out) hb); have n1_ := Aside0.mk (blk_below (g := gb266) (o := .cells #[.string t274, .int .i64 t275, .int .i64 t276, .string t277, .string t278] 23 (0, 0)) (by (with_reducible repeat (first | refine blk_drewN ?_ _ | refine blk_drew ?_ | refine blk_alloc ?_ _)); exact BK266.out) hb); have n2_ := Aside0.mk (blk_below (g := gb267) (o := .cells #[.string t279, .int .i64 t280, .int .i64 t281, .string t282, .string t283] 23 (0, 0)) (by (with_reducible repeat (first | refine blk_drewN ?_ _ | refine blk_drew ?_ | refine blk_alloc ?_ _)); exact BK267.out) hb); have n3_ := Aside0.mk (below_step (by repeat (first | (with_reducible first | exact HB.out | apply below_alloc | apply pw_below_drewN | apply below_drew1 | refine below_set ?_ GE265.out | refine below_set ?_ GE266.out | refine below_set ?_ GE267.out) | exact HB.out)) hb); clear BK265; clear BK266; clear BK267; clear HB; have BK265 := n0_; have BK266 := n1_; have BK267 := n2_; have HB := n3_; clear n0_ n1_ n2_ n3_; (try clear hb); (try clear hb2); (try clear hk); (try clear hi); have hcz94_0 : w93.cell? ⟨gb266, 0, none⟩ = some (.string t274) := (blk_cell BK266.out 0).trans rfl; have hcz94_1 : w93.cell? ⟨gb266, 1, none⟩ = some (.int .i64 t275) := (blk_cell BK266.out 1).trans rfl; have hcz94_2 : w93.cell? ⟨gb266, 2, none⟩ = some (.int .i64 t276) := (blk_cell BK266.out 2).trans rfl; have hcz94_3 : w93.cell? ⟨gb266, 3, none⟩ = some (.string t277) := (blk_cell BK266.out 3).trans rfl; have hcz94_4 : w93.cell? ⟨gb266, 4, none⟩ = some (.string t278) := (blk_cell BK266.out 4).trans rfl; have hfz94_0 := blk_frozen BK266.out 0; have hfz94_1 := blk_frozen BK266.out 1; have hfz94_2 := blk_frozen BK266.out 2; have hfz94_3 := blk_frozen BK266.out 3; have hfz94_4 := blk_frozen BK266.out 4; have hcz95_0 : w93.cell? ⟨gb265, 0, none⟩ = some (.string t269) := (blk_cell BK265.out 0).trans rfl; have hcz95_1 : w93.cell? ⟨gb265, 1, none⟩ = some (.int .i64 t270) := (blk_cell BK265.out 1).trans rfl; have hcz95_2 : w93.cell? ⟨gb265, 2, none⟩ = some (.int .i64 t271) := (blk_cell BK265.out 2).trans rfl; have hcz95_3 : w93.cell? ⟨gb265, 3, none⟩ = some (.string t272) := (blk_cell BK265.out 3).trans rfl; have hcz95_4 : w93.cell? ⟨gb265, 4, none⟩ = some (.string t273) := (blk_cell BK265.out 4).trans rfl; have hfz95_0 := blk_frozen BK265.out 0; have hfz95_1 := blk_frozen BK265.out 1; have hfz95_2 := blk_frozen BK265.out 2; have hfz95_3 := blk_frozen BK265.out 3; have hfz95_4 := blk_frozen BK265.out 4) | (go_at_call 17; (with_reducible refine (ikey_Less.calls t274 t275 t276 t277 t278 t269 t270 t271 t272 t273 t288 _ A87.out).mono ?_); rintro e w96 ⟨rfl, hb⟩; have n0_ := Aside0.mk (blk_below (g := gb265) (o := .cells #[.string t269, .int .i64 t270, .int .i64 t271, .string t272, .string t273] 23 (0, 0)) (by (with_reducible repeat (first | refine blk_drewN ?_ _ | refine blk_drew ?_ | refine blk_alloc ?_ _)); exact BK265.out) hb); have n1_ := Aside0.mk (blk_below (g := gb266) (o := .cells #[.string t274, .int .i64 t275, .int .i64 t276, .string t277, .string t278] 23 (0, 0)) (by (with_reducible repeat (first | refine blk_drewN ?_ _ | refine blk_drew ?_ | refine blk_alloc ?_ _)); exact BK266.out) hb); have n2_ := Aside0.mk (blk_below (g := gb267) (o := .cells #[.string t279, .int .i64 t280, .int .i64 t281, .string t282, .string t283] 23 (0, 0)) (by (with_reducible repeat (first | refine blk_drewN ?_ _ | refine blk_drew ?_ | refine blk_alloc ?_ _)); exact BK267.out) hb); have n3_ := Aside0.mk (below_step (by repeat (first | (with_reducible first | exact HB.out | apply below_alloc | apply pw_below_drewN | apply below_drew1 | refine below_set ?_ GE265.out | refine below_set ?_ GE266.out | refine below_set ?_ GE267.out) | exact HB.out)) hb); clear BK265; clear BK266; clear BK267; clear HB; have BK265 := n0_; have BK266 := n1_; have BK267 := n2_; have HB := n3_; clear n0_ n1_ n2_ n3_; (try clear hb); (try clear hb2); (try clear hk); (try clear hi)))
                  go_meet
                  case rel => exact ⟨_, (t288), (by first | rfl | (simp; done) | (simp [*]; done)), H', ⟨by have := HJ8.out; have := HJ65.out; first | omega | exact Nat.le_refl _⟩, ⟨by (with_reducible repeat (first | refine blk_drewN ?_ _ | refine blk_drew ?_ | refine blk_alloc ?_ _)); exact BK265.out⟩, ⟨by (with_reducible repeat (first | refine blk_drewN ?_ _ | refine blk_drew ?_ | refine blk_alloc ?_ _)); exact BK266.out⟩, ⟨by (with_reducible repeat (first | refine blk_drewN ?_ _ | refine blk_drew ?_ | refine blk_alloc ?_ _)); exact BK267.out⟩, ⟨by repeat (first | (with_reducible first | exact HB.out | apply below_alloc | apply pw_below_drewN | apply below_drew1 | refine below_set ?_ GE265.out | refine below_set ?_ GE266.out | refine below_set ?_ GE267.out) | exact HB.out)⟩⟩
                · replace c86 := Bool.eq_false_iff.mpr c86
                  subst c86
                  have H1 : (incipitlaw7_EntryApart.j2 kj65 x8_65 false t269 t270 t271 t272 t273 t274 t275 t276 t277 t278) = some r := by rw [if_neg (show ¬ (false = true) by decide)] at H; exact H
                  clear H
                  have H := H1
                  clear H1
                  have H' := Aside0.mk H
                  clear H
                  have hnb97 := NB265_266.out
                  have hnc97 := NB266_265.out
                  have hnb98 := NB265_267.out
                  have hnc98 := NB267_265.out
                  have hcz99_0 : wc.cell? ⟨gb265, 0, none⟩ = some (.string t269) := (blk_cell BK265.out 0).trans rfl
                  have hcz99_1 : wc.cell? ⟨gb265, 1, none⟩ = some (.int .i64 t270) := (blk_cell BK265.out 1).trans rfl
                  have hcz99_2 : wc.cell? ⟨gb265, 2, none⟩ = some (.int .i64 t271) := (blk_cell BK265.out 2).trans rfl
                  have hcz99_3 : wc.cell? ⟨gb265, 3, none⟩ = some (.string t272) := (blk_cell BK265.out 3).trans rfl
                  have hcz99_4 : wc.cell? ⟨gb265, 4, none⟩ = some (.string t273) := (blk_cell BK265.out 4).trans rfl
                  have hfz99_0 := blk_frozen BK265.out 0
                  have hfz99_1 := blk_frozen BK265.out 1
                  have hfz99_2 := blk_frozen BK265.out 2
                  have hfz99_3 := blk_frozen BK265.out 3
                  have hfz99_4 := blk_frozen BK265.out 4
                  have hnb100 := NB266_267.out
                  have hnc100 := NB267_266.out
                  have hcz101_0 : wc.cell? ⟨gb266, 0, none⟩ = some (.string t274) := (blk_cell BK266.out 0).trans rfl
                  have hcz101_1 : wc.cell? ⟨gb266, 1, none⟩ = some (.int .i64 t275) := (blk_cell BK266.out 1).trans rfl
                  have hcz101_2 : wc.cell? ⟨gb266, 2, none⟩ = some (.int .i64 t276) := (blk_cell BK266.out 2).trans rfl
                  have hcz101_3 : wc.cell? ⟨gb266, 3, none⟩ = some (.string t277) := (blk_cell BK266.out 3).trans rfl
                  have hcz101_4 : wc.cell? ⟨gb266, 4, none⟩ = some (.string t278) := (blk_cell BK266.out 4).trans rfl
                  have hfz101_0 := blk_frozen BK266.out 0
                  have hfz101_1 := blk_frozen BK266.out 1
                  have hfz101_2 := blk_frozen BK266.out 2
                  have hfz101_3 := blk_frozen BK266.out 3
                  have hfz101_4 := blk_frozen BK266.out 4
                  go_wp2_with (first | ((with_reducible refine gate_callee (f := 17) rfl ?_); refine goesL_ (some 53) rfl rfl Try.func17 (by kernel_rfl) rfl #[.agg #[.string t269, .int .i64 t270, .int .i64 t271, .string t272, .string t273], .agg #[.string t274, .int .i64 t275, .int .i64 t276, .string t277, .string t278]] rfl (by (try simp only [List.map_toArray, List.map_cons, List.map_nil]); first | done | rfl | (simp only [List.length_drop, List.length_take]; rfl)) ?_; (with_reducible refine (ikey_Less.calls t269 t270 t271 t272 t273 t274 t275 t276 t277 t278 false _ A85.out).mono ?_); rintro e w102 ⟨rfl, hb⟩; refine ⟨_, rfl, ?_⟩; have n0_ := Aside0.mk (blk_below (g := gb265) (o := .cells #[.string t269, .int .i64 t270, .int .i64 t271, .string t272, .string t273] 23 (0, 0)) (by (with_reducible repeat (first | refine blk_drewN ?_ _ | refine blk_drew ?_ | refine blk_alloc ?_ _)); exact BK265.out) hb); have n1_ := Aside0.mk (blk_below (g := gb266) (o := .cells #[.string t274, .int .i64 t275, .int .i64 t276, .string t277, .string t278] 23 (0, 0)) (by (with_reducible repeat (first | refine blk_drewN ?_ _ | refine blk_drew ?_ | refine blk_alloc ?_ _)); exact BK266.out) hb); have n2_ := Aside0.mk (blk_below (g := gb267) (o := .cells #[.string t279, .int .i64 t280, .int .i64 t281, .string t282, .string t283] 23 (0, 0)) (by (with_reducible repeat (first | refine blk_drewN ?_ _ | refine blk_drew ?_ | refine blk_alloc ?_ _)); exact BK267.out) hb); have n3_ := Aside0.mk (below_step (by repeat (first | (with_reducible first | exact HB.out | apply below_alloc | apply pw_below_drewN | apply below_drew1 | refine below_set ?_ GE265.out | refine below_set ?_ GE266.out | refine below_set ?_ GE267.out) | exact HB.out)) hb); clear BK265; clear BK266; clear BK267; clear HB; have BK265 := n0_; have BK266 := n1_; have BK267 := n2_; have HB := n3_; clear n0_ n1_ n2_ n3_; (try clear hb); (try clear hb2); (try clear hk); (try clear hi)))
                  go_meet
                  case rel => exact ⟨_, (false), (by first | rfl | (simp; done) | (simp [*]; done)), H', ⟨by have := HJ8.out; have := HJ65.out; first | omega | exact Nat.le_refl _⟩, ⟨by (with_reducible repeat (first | refine blk_drewN ?_ _ | refine blk_drew ?_ | refine blk_alloc ?_ _)); exact BK265.out⟩, ⟨by (with_reducible repeat (first | refine blk_drewN ?_ _ | refine blk_drew ?_ | refine blk_alloc ?_ _)); exact BK266.out⟩, ⟨by (with_reducible repeat (first | refine blk_drewN ?_ _ | refine blk_drew ?_ | refine blk_alloc ?_ _)); exact BK267.out⟩, ⟨by repeat (first | (with_reducible first | exact HB.out | apply below_alloc | apply pw_below_drewN | apply below_drew1 | refine below_set ?_ GE265.out | refine below_set ?_ GE266.out | refine below_set ?_ GE267.out) | exact HB.out)⟩⟩
              case rest =>
                clear HC84
                try clear c1
                try clear p2
                try clear c3
                try clear c4
                try clear c5
                try clear c6
                try clear c7
                try clear c8
                try clear c9
                try clear c10
                try clear c15
                try clear c16
                try clear c17
                try clear c34
                try clear c36
                try clear c38
                try clear c39
                try clear c41
                try clear c50
                try clear c51
                try clear c53
                try clear c59
                try clear c60
                try clear c62
                try clear c65
                try clear c67
                try clear c67b0
                try clear c67b1
                try clear c68
                try clear c68b0
                try clear c68b1
                try clear c69
                try clear c70
                try clear c72
                try clear c74
                try clear c75
                try clear c77
                try clear c79
                try clear c80
                try clear c82
                try clear c86
                try clear c88
                try clear c89
                try clear c91
                try clear c97
                try clear c98
                try clear c100
                try clear hcz101_0
                try clear hcz101_1
                try clear hcz101_2
                try clear hcz101_3
                try clear hcz101_4
                try clear hcz40_0
                try clear hcz40_1
                try clear hcz40_2
                try clear hcz40_3
                try clear hcz40_4
                try clear hcz42_0
                try clear hcz42_1
                try clear hcz42_2
                try clear hcz42_3
                try clear hcz42_4
                try clear hcz44_0
                try clear hcz44_1
                try clear hcz44_2
                try clear hcz44_3
                try clear hcz44_4
                try clear hcz45_0
                try clear hcz45_1
                try clear hcz45_2
                try clear hcz45_3
                try clear hcz45_4
                try clear hcz47_0
                try clear hcz47_1
                try clear hcz47_2
                try clear hcz47_3
                try clear hcz47_4
                try clear hcz48_0
                try clear hcz48_1
                try clear hcz48_2
                try clear hcz48_3
                try clear hcz48_4
                try clear hcz52_0
                try clear hcz52_1
                try clear hcz52_2
                try clear hcz52_3
                try clear hcz52_4
                try clear hcz54_0
                try clear hcz54_1
                try clear hcz54_2
                try clear hcz54_3
                try clear hcz54_4
                try clear hcz56_0
                try clear hcz56_1
                try clear hcz56_2
                try clear hcz56_3
                try clear hcz56_4
                try clear hcz57_0
                try clear hcz57_1
                try clear hcz57_2
                try clear hcz57_3
                try clear hcz57_4
                try clear hcz61_0
                try clear hcz61_1
                try clear hcz61_2
                try clear hcz61_3
                try clear hcz61_4
                try clear hcz63_0
                try clear hcz63_1
                try clear hcz63_2
                try clear hcz63_3
                try clear hcz63_4
                try clear hcz71_0
                try clear hcz71_1
                try clear hcz71_2
                try clear hcz71_3
                try clear hcz71_4
                try clear hcz73_0
                try clear hcz73_1
                try clear hcz73_2
                try clear hcz73_3
                try clear hcz73_4
                try clear hcz76_0
                try clear hcz76_1
                try clear hcz76_2
                try clear hcz76_3
                try clear hcz76_4
                try clear hcz78_0
                try clear hcz78_1
                try clear hcz78_2
                try clear hcz78_3
                try clear hcz78_4
                try clear hcz81_0
                try clear hcz81_1
                try clear hcz81_2
                try clear hcz81_3
                try clear hcz81_4
                try clear hcz83_0
                try clear hcz83_1
                try clear hcz83_2
                try clear hcz83_3
                try clear hcz83_4
                try clear hcz90_0
                try clear hcz90_1
                try clear hcz90_2
                try clear hcz90_3
                try clear hcz90_4
                try clear hcz92_0
                try clear hcz92_1
                try clear hcz92_2
                try clear hcz92_3
                try clear hcz92_4
                try clear hcz94_0
                try clear hcz94_1
                try clear hcz94_2
                try clear hcz94_3
                try clear hcz94_4
                try clear hcz95_0
                try clear hcz95_1
                try clear hcz95_2
                try clear hcz95_3
                try clear hcz95_4
                try clear hcz99_0
                try clear hcz99_1
                try clear hcz99_2
                try clear hcz99_3
                try clear hcz99_4
                try clear hfz101_0
                try clear hfz101_1
                try clear hfz101_2
                try clear hfz101_3
                try clear hfz101_4
                try clear hfz40_0
                try clear hfz40_1
                try clear hfz40_2
                try clear hfz40_3
                try clear hfz40_4
                try clear hfz42_0
                try clear hfz42_1
                try clear hfz42_2
                try clear hfz42_3
                try clear hfz42_4
                try clear hfz44_0
                try clear hfz44_1
                try clear hfz44_2
                try clear hfz44_3
                try clear hfz44_4
                try clear hfz45_0
                try clear hfz45_1
                try clear hfz45_2
                try clear hfz45_3
                try clear hfz45_4
                try clear hfz47_0
                try clear hfz47_1
                try clear hfz47_2
                try clear hfz47_3
                try clear hfz47_4
                try clear hfz48_0
                try clear hfz48_1
                try clear hfz48_2
                try clear hfz48_3
                try clear hfz48_4
                try clear hfz52_0
                try clear hfz52_1
                try clear hfz52_2
                try clear hfz52_3
                try clear hfz52_4
                try clear hfz54_0
                try clear hfz54_1
                try clear hfz54_2
                try clear hfz54_3
                try clear hfz54_4
                try clear hfz56_0
                try clear hfz56_1
                try clear hfz56_2
                try clear hfz56_3
                try clear hfz56_4
                try clear hfz57_0
                try clear hfz57_1
                try clear hfz57_2
                try clear hfz57_3
                try clear hfz57_4
                try clear hfz61_0
                try clear hfz61_1
                try clear hfz61_2
                try clear hfz61_3
                try clear hfz61_4
                try clear hfz63_0
                try clear hfz63_1
                try clear hfz63_2
                try clear hfz63_3
                try clear hfz63_4
                try clear hfz71_0
                try clear hfz71_1
                try clear hfz71_2
                try clear hfz71_3
                try clear hfz71_4
                try clear hfz73_0
                try clear hfz73_1
                try clear hfz73_2
                try clear hfz73_3
                try clear hfz73_4
                try clear hfz76_0
                try clear hfz76_1
                try clear hfz76_2
                try clear hfz76_3
                try clear hfz76_4
                try clear hfz78_0
                try clear hfz78_1
                try clear hfz78_2
                try clear hfz78_3
                try clear hfz78_4
                try clear hfz81_0
                try clear hfz81_1
                try clear hfz81_2
                try clear hfz81_3
                try clear hfz81_4
                try clear hfz83_0
                try clear hfz83_1
                try clear hfz83_2
                try clear hfz83_3
                try clear hfz83_4
                try clear hfz90_0
                try clear hfz90_1
                try clear hfz90_2
                try clear hfz90_3
                try clear hfz90_4
                try clear hfz92_0
                try clear hfz92_1
                try clear hfz92_2
                try clear hfz92_3
                try clear hfz92_4
                try clear hfz94_0
                try clear hfz94_1
                try clear hfz94_2
                try clear hfz94_3
                try clear hfz94_4
                try clear hfz95_0
                try clear hfz95_1
                try clear hfz95_2
                try clear hfz95_3
                try clear hfz95_4
                try clear hfz99_0
                try clear hfz99_1
                try clear hfz99_2
                try clear hfz99_3
                try clear hfz99_4
                try clear p2
                obtain ⟨kq, x58_83, rfl, HA, HJ83, BK265, BK266, BK267, HB⟩ := hcut
                cases kq with
                | zero => exact absurd HA.out (by simp [incipitlaw7_EntryApart.j2])
                | succ kj83 =>
                  have H := HA.out
                  clear HA
                  simp only [incipitlaw7_EntryApart.j2] at H
                  by_cases c103 : x58_83 = true
                  · subst c103
                    have H1 : (some false) = some r := by rw [if_pos rfl] at H; exact H
                    clear H
                    have H := H1
                    clear H1
                    obtain rfl := Option.some.inj H
                    exact absurd HRT.out (by decide)
                  · replace c103 := Bool.eq_false_iff.mpr c103
                    subst c103
                    have H1 : ((ikey_Less.f t269 t270 t271 t272 t273 t274 t275 t276 t277 t278).bind fun t289 => (if t289 = true then (some (true == (!x8_65))) else ((ikey_Less.f t274 t275 t276 t277 t278 t269 t270 t271 t272 t273).bind fun t290 => (some (t290 == (!x8_65)))))) = some r := by rw [if_neg (show ¬ (false = true) by decide)] at H; exact H
                    clear H
                    have H := H1
                    clear H1
                    replace H := Option.bind_eq_some_iff.mp H
                    obtain ⟨t289, A1040, H⟩ := H
                    replace H : (if t289 = true then (some (true == (!x8_65))) else ((ikey_Less.f t274 t275 t276 t277 t278 t269 t270 t271 t272 t273).bind fun t290 => (some (t290 == (!x8_65))))) = some r := H
                    have A104 := Aside0.mk A1040
                    clear A1040
                    by_cases c105 : t289 = true
                    · subst c105
                      have H1 : (some (true == (!x8_65))) = some r := by rw [if_pos rfl] at H; exact H
                      clear H
                      have H := H1
                      clear H1
                      obtain rfl := Option.some.inj H
                      simp only [Option.some.injEq, Prod.mk.injEq] at H
                      obtain ⟨rfl⟩ := H
                      have hnb106 := NB265_266.out
                      have hnc106 := NB266_265.out
                      have hnb107 := NB265_267.out
                      have hnc107 := NB267_265.out
                      have hcz108_0 : wc.cell? ⟨gb265, 0, none⟩ = some (.string t269) := (blk_cell BK265.out 0).trans rfl
                      have hcz108_1 : wc.cell? ⟨gb265, 1, none⟩ = some (.int .i64 t270) := (blk_cell BK265.out 1).trans rfl
                      have hcz108_2 : wc.cell? ⟨gb265, 2, none⟩ = some (.int .i64 t271) := (blk_cell BK265.out 2).trans rfl
                      have hcz108_3 : wc.cell? ⟨gb265, 3, none⟩ = some (.string t272) := (blk_cell BK265.out 3).trans rfl
                      have hcz108_4 : wc.cell? ⟨gb265, 4, none⟩ = some (.string t273) := (blk_cell BK265.out 4).trans rfl
                      have hfz108_0 := blk_frozen BK265.out 0
                      have hfz108_1 := blk_frozen BK265.out 1
                      have hfz108_2 := blk_frozen BK265.out 2
                      have hfz108_3 := blk_frozen BK265.out 3
                      have hfz108_4 := blk_frozen BK265.out 4
                      have hnb109 := NB266_267.out
                      have hnc109 := NB267_266.out
                      have hcz110_0 : wc.cell? ⟨gb266, 0, none⟩ = some (.string t274) := (blk_cell BK266.out 0).trans rfl
                      have hcz110_1 : wc.cell? ⟨gb266, 1, none⟩ = some (.int .i64 t275) := (blk_cell BK266.out 1).trans rfl
                      have hcz110_2 : wc.cell? ⟨gb266, 2, none⟩ = some (.int .i64 t276) := (blk_cell BK266.out 2).trans rfl
                      have hcz110_3 : wc.cell? ⟨gb266, 3, none⟩ = some (.string t277) := (blk_cell BK266.out 3).trans rfl
                      have hcz110_4 : wc.cell? ⟨gb266, 4, none⟩ = some (.string t278) := (blk_cell BK266.out 4).trans rfl
                      have hfz110_0 := blk_frozen BK266.out 0
                      have hfz110_1 := blk_frozen BK266.out 1
                      have hfz110_2 := blk_frozen BK266.out 2
                      have hfz110_3 := blk_frozen BK266.out 3
                      have hfz110_4 := blk_frozen BK266.out 4
                      go_wp2_with (first | ((with_reducible refine gate_callee (f := 17) rfl ?_); refine goesL_ (some 61) rfl rfl Try.func17 (by kernel_rfl) rfl #[.agg #[.string t269, .int .i64 t270, .int .i64 t271, .string t272, .string t273], .agg #[.string t274, .int .i64 t275, .int .i64 t276, .string t277, .string t278]] rfl (by (try simp only [List.map_toArray, List.map_cons, List.map_nil]); first | done | rfl | (simp only [List.length_drop, List.length_take]; rfl)) ?_; (with_reducible refine (ikey_Less.calls t269 t270 t271 t272 t273 t274 t275 t276 t277 t278 true _ A104.out).mono ?_); rintro e w111 ⟨rfl, hb⟩; refine ⟨_, rfl, ?_⟩; have n0_ := Aside0.mk (blk_below (g := gb265) (o := .cells #[.string t269, .int .i64 t270, .int .i64 t271, .string t272, .string t273] 23 (0, 0)) (by (with_reducible repeat (first | refine blk_drewN ?_ _ | refine blk_drew ?_ | refine blk_alloc ?_ _)); exact BK265.out) hb); have n1_ := Aside0.mk (blk_below (g := gb266) (o := .cells #[.string t274, .int .i64 t275, .int .i64 t276, .string t277, .string t278] 23 (0, 0)) (by (with_reducible repeat (first | refine blk_drewN ?_ _ | refine blk_drew ?_ | refine blk_alloc ?_ _)); exact BK266.out) hb); have n2_ := Aside0.mk (blk_below (g := gb267) (o := .cells #[.string t279, .int .i64 t280, .int .i64 t281, .string t282, .string t283] 23 (0, 0)) (by (with_reducible repeat (first | refine blk_drewN ?_ _ | refine blk_drew ?_ | refine blk_alloc ?_ _)); exact BK267.out) hb); have n3_ := Aside0.mk (below_step (by repeat (first | (with_reducible first | exact HB.out | apply below_alloc | apply pw_below_drewN | apply below_drew1 | refine below_set ?_ GE265.out | refine below_set ?_ GE266.out | refine below_set ?_ GE267.out) | exact HB.out)) hb); clear BK265; clear BK266; clear BK267; clear HB; have BK265 := n0_; have BK266 := n1_; have BK267 := n2_; have HB := n3_; clear n0_ n1_ n2_ n3_; (try clear hb); (try clear hb2); (try clear hk); (try clear hi)))
                      go_ret
                      exact ⟨by first | rfl | (simp [errW_none, errW_some] <;> rfl) | (simp [*, errW_none, errW_some] <;> rfl), by repeat (first | (with_reducible first | exact HB.out | apply below_alloc | apply pw_below_drewN | apply below_drew1 | refine below_set ?_ GE265.out | refine below_set ?_ GE266.out | refine below_set ?_ GE267.out) | exact HB.out)⟩
                    · replace c105 := Bool.eq_false_iff.mpr c105
                      subst c105
                      have H1 : ((ikey_Less.f t274 t275 t276 t277 t278 t269 t270 t271 t272 t273).bind fun t290 => (some (t290 == (!x8_65)))) = some r := by rw [if_neg (show ¬ (false = true) by decide)] at H; exact H
                      clear H
                      have H := H1
                      clear H1
                      replace H := Option.bind_eq_some_iff.mp H
                      obtain ⟨t290, A1120, H⟩ := H
                      replace H : (some (t290 == (!x8_65))) = some r := H
                      have A112 := Aside0.mk A1120
                      clear A1120
                      obtain rfl := Option.some.inj H
                      simp only [Option.some.injEq, Prod.mk.injEq] at H
                      obtain ⟨rfl⟩ := H
                      have hnb113 := NB265_266.out
                      have hnc113 := NB266_265.out
                      have hnb114 := NB265_267.out
                      have hnc114 := NB267_265.out
                      have hcz115_0 : wc.cell? ⟨gb265, 0, none⟩ = some (.string t269) := (blk_cell BK265.out 0).trans rfl
                      have hcz115_1 : wc.cell? ⟨gb265, 1, none⟩ = some (.int .i64 t270) := (blk_cell BK265.out 1).trans rfl
                      have hcz115_2 : wc.cell? ⟨gb265, 2, none⟩ = some (.int .i64 t271) := (blk_cell BK265.out 2).trans rfl
                      have hcz115_3 : wc.cell? ⟨gb265, 3, none⟩ = some (.string t272) := (blk_cell BK265.out 3).trans rfl
                      have hcz115_4 : wc.cell? ⟨gb265, 4, none⟩ = some (.string t273) := (blk_cell BK265.out 4).trans rfl
                      have hfz115_0 := blk_frozen BK265.out 0
                      have hfz115_1 := blk_frozen BK265.out 1
                      have hfz115_2 := blk_frozen BK265.out 2
                      have hfz115_3 := blk_frozen BK265.out 3
                      have hfz115_4 := blk_frozen BK265.out 4
                      have hnb116 := NB266_267.out
                      have hnc116 := NB267_266.out
                      have hcz117_0 : wc.cell? ⟨gb266, 0, none⟩ = some (.string t274) := (blk_cell BK266.out 0).trans rfl
                      have hcz117_1 : wc.cell? ⟨gb266, 1, none⟩ = some (.int .i64 t275) := (blk_cell BK266.out 1).trans rfl
                      have hcz117_2 : wc.cell? ⟨gb266, 2, none⟩ = some (.int .i64 t276) := (blk_cell BK266.out 2).trans rfl
                      have hcz117_3 : wc.cell? ⟨gb266, 3, none⟩ = some (.string t277) := (blk_cell BK266.out 3).trans rfl
                      have hcz117_4 : wc.cell? ⟨gb266, 4, none⟩ = some (.string t278) := (blk_cell BK266.out 4).trans rfl
                      have hfz117_0 := blk_frozen BK266.out 0
                      have hfz117_1 := blk_frozen BK266.out 1
                      have hfz117_2 := blk_frozen BK266.out 2
                      have hfz117_3 := blk_frozen BK266.out 3
                      have hfz117_4 := blk_frozen BK266.out 4
                      go_wp2_with (first | ((with_reducible refine gate_callee (f := 17) rfl ?_); refine goesL_ (some 61) rfl rfl Try.func17 (by kernel_rfl) rfl #[.agg #[.string t269, .int .i64 t270, .int .i64 t271, .string t272, .string t273], .agg #[.string t274, .int .i64 t275, .int .i64 t276, .string t277, .string t278]] rfl (by (try simp only [List.map_toArray, List.map_cons, List.map_nil]); first | done | rfl | (simp only [List.length_drop, List.length_take]; rfl)) ?_; (with_reducible refine (ikey_Less.calls t269 t270 t271 t272 t273 t274 t275 t276 t277 t278 false _ A104.out).mono ?_); rintro e w118 ⟨rfl, hb⟩; refine ⟨_, rfl, ?_⟩; have n0_ := Aside0.mk (blk_below (g := gb265) (o := .cells #[.string t269, .int .i64 t270, .int .i64 t271, .string t272, .string t273] 23 (0, 0)) (by (with_reducible repeat (first | refine blk_drewN ?_ _ | refine blk_drew ?_ | refine blk_alloc ?_ _)); exact BK265.out) hb); have n1_ := Aside0.mk (blk_below (g := gb266) (o := .cells #[.string t274, .int .i64 t275, .int .i64 t276, .string t277, .string t278] 23 (0, 0)) (by (with_reducible repeat (first | refine blk_drewN ?_ _ | refine blk_drew ?_ | refine blk_alloc ?_ _)); exact BK266.out) hb); have n2_ := Aside0.mk (blk_below (g := gb267) (o := .cells #[.string t279, .int .i64 t280, .int .i64 t281, .string t282, .string t283] 23 (0, 0)) (by (with_reducible repeat (first | refine blk_drewN ?_ _ | refine blk_drew ?_ | refine blk_alloc ?_ _)); exact BK267.out) hb); have n3_ := Aside0.mk (below_step (by repeat (first | (with_reducible first | exact HB.out | apply below_alloc | apply pw_below_drewN | apply below_drew1 | refine below_set ?_ GE265.out | refine below_set ?_ GE266.out | refine below_set ?_ GE267.out) | exact HB.out)) hb); clear BK265; clear BK266; clear BK267; clear HB; have BK265 := n0_; have BK266 := n1_; have BK267 := n2_; have HB := n3_; clear n0_ n1_ n2_ n3_; (try clear hb); (try clear hb2); (try clear hk); (try clear hi); have hcz119_0 : w118.cell? ⟨gb266, 0, none⟩ = some (.string t274) := (blk_cell BK266.out 0).trans rfl; have hcz119_1 : w118.cell? ⟨gb266, 1, none⟩ = some (.int .i64 t275) := (blk_cell BK266.out 1).trans rfl; have hcz119_2 : w118.cell? ⟨gb266, 2, none⟩ = some (.int .i64 t276) := (blk_cell BK266.out 2).trans rfl; have hcz119_3 : w118.cell? ⟨gb266, 3, none⟩ = some (.string t277) := (blk_cell BK266.out 3).trans rfl; have hcz119_4 : w118.cell? ⟨gb266, 4, none⟩ = some (.string t278) := (blk_cell BK266.out 4).trans rfl; have hfz119_0 := blk_frozen BK266.out 0; have hfz119_1 := blk_frozen BK266.out 1; have hfz119_2 := blk_frozen BK266.out 2; have hfz119_3 := blk_frozen BK266.out 3; have hfz119_4 := blk_frozen BK266.out 4; have hcz120_0 : w118.cell? ⟨gb265, 0, none⟩ = some (.string t269) := (blk_cell BK265.out 0).trans rfl; have hcz120_1 : w118.cell? ⟨gb265, 1, none⟩ = some (.int .i64 t270) := (blk_cell BK265.out 1).trans rfl; have hcz120_2 : w118.cell? ⟨gb265, 2, none⟩ = some (.int .i64 t271) := (blk_cell BK265.out 2).trans rfl; have hcz120_3 : w118.cell? ⟨gb265, 3, none⟩ = some (.string t272) := (blk_cell BK265.out 3).trans rfl; have hcz120_4 : w118.cell? ⟨gb265, 4, none⟩ = some (.string t273) := (blk_cell BK265.out 4).trans rfl; have hfz120_0 := blk_frozen BK265.out 0; have hfz120_1 := blk_frozen BK265.out 1; have hfz120_2 := blk_frozen BK265.out 2; have hfz120_3 := blk_frozen BK265.out 3; have hfz120_4 := blk_frozen BK265.out 4) | (go_at_call 17; (with_reducible refine (ikey_Less.calls t274 t275 t276 t277 t278 t269 t270 t271 t272 t273 t290 _ A112.out).mono ?_); rintro e w121 ⟨rfl, hb⟩; have n0_ := Aside0.mk (blk_below (g := gb265) (o := .cells #[.string t269, .int .i64 t270, .int .i64 t271, .string t272, .string t273] 23 (0, 0)) (by (with_reducible repeat (first | refine blk_drewN ?_ _ | refine blk_drew ?_ | refine blk_alloc ?_ _)); exact BK265.out) hb); have n1_ := Aside0.mk (blk_below (g := gb266) (o := .cells #[.string t274, .int .i64 t275, .int .i64 t276, .string t277, .string t278] 23 (0, 0)) (by (with_reducible repeat (first | refine blk_drewN ?_ _ | refine blk_drew ?_ | refine blk_alloc ?_ _)); exact BK266.out) hb); have n2_ := Aside0.mk (blk_below (g := gb267) (o := .cells #[.string t279, .int .i64 t280, .int .i64 t281, .string t282, .string t283] 23 (0, 0)) (by (with_reducible repeat (first | refine blk_drewN ?_ _ | refine blk_drew ?_ | refine blk_alloc ?_ _)); exact BK267.out) hb); have n3_ := Aside0.mk (below_step (by repeat (first | (with_reducible first | exact HB.out | apply below_alloc | apply pw_below_drewN | apply below_drew1 | refine below_set ?_ GE265.out | refine below_set ?_ GE266.out | refine below_set ?_ GE267.out) | exact HB.out)) hb); clear BK265; clear BK266; clear BK267; clear HB; have BK265 := n0_; have BK266 := n1_; have BK267 := n2_; have HB := n3_; clear n0_ n1_ n2_ n3_; (try clear hb); (try clear hb2); (try clear hk); (try clear hi)))
                      go_ret
                      exact ⟨by first | rfl | (simp [errW_none, errW_some] <;> rfl) | (simp [*, errW_none, errW_some] <;> rfl), by repeat (first | (with_reducible first | exact HB.out | apply below_alloc | apply pw_below_drewN | apply below_drew1 | refine below_set ?_ GE265.out | refine below_set ?_ GE266.out | refine below_set ?_ GE267.out) | exact HB.out)⟩
  · replace c5 := Bool.eq_false_iff.mpr c5
    subst c5
    have H1 : (some false) = some r := by rw [if_neg (show ¬ (false = true) by decide)] at H; exact H
    clear H
    have H := H1
    clear H1
    obtain rfl := Option.some.inj H
    exact absurd HRT.out (by decide)

end Go.Proofs.Ytcijcfdllfaghaa.MEnt
