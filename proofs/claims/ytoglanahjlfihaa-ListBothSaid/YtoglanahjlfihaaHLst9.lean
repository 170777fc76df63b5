import Derived.Test.YtoglanahjlfihaaHLst8
namespace Go.Proofs.Ytoglanahjlfihaa.MLst
open Go.RowKit Go.Proofs.Ytoglanahjlfihaa.QLst Go.Proofs.YtoglanahjlfihaaW.PrintWords Go.Proofs.YtoglanahjlfihaaW.PrintLast Go.Proofs.YtoglanahjlfihaaW.PrintMore
set_option linter.unusedVariables false
set_option linter.unusedSimpArgs false
theorem list_Len.calls (w0 w : World) (g : Nat) (hd : Nd S30) (tl : List (Nd S30)) (hs : List Int) (size : Int) (hO : LO w0 w g hd tl hs size) :
    Calls Try.prog 22 #[.pointer (some ⟨g, 0, none⟩)] w fun e' w' => e' = .returned (.int .i64 tl.length) ∧ w' = w := by
  obtain ⟨G, vh, hL, hB, hg, hfn, hr⟩ := hO
  have hc2 : w.cell? ⟨g, 2, none⟩ = some (.int .i64 tl.length) := by rw [blk_cell hL.blk 2]; rfl
  clear hL hr hfn hB
  go_enter Try.func22, Try.ntmps22
  go_wp2_with (fail)
  go_ret
  exact ⟨rfl, rfl⟩
theorem list_Size.calls (w0 w : World) (g : Nat) (hd : Nd S30) (tl : List (Nd S30)) (hs : List Int) (size : Int) (hO : LO w0 w g hd tl hs size) :
    Calls Try.prog 50 #[.pointer (some ⟨g, 0, none⟩)] w fun e' w' => e' = .returned (.int .i64 size) ∧ w' = w := by
  obtain ⟨G, vh, hL, hB, hg, hfn, hr⟩ := hO
  have hc3 : w.cell? ⟨g, 3, none⟩ = some (.int .i64 size) := by rw [blk_cell hL.blk 3]; rfl
  clear hL hr hfn hB
  go_enter Try.func50, Try.ntmps50
  go_wp2_with (fail)
  go_ret
  exact ⟨rfl, rfl⟩
/-- An iterator. -/
def It (w : World) (i g : Nat) (at_ : Option Nat) : Prop := w.heap[i]? = some (.cells #[.pointer (some ⟨g, 0, none⟩), ptrV at_] 109 (0, 0))
theorem list_Iter.calls (w : World) (g : Nat) :
    Calls Try.prog 30 #[.pointer (some ⟨g, 0, none⟩)] w fun e' w' => ∃ i, e' = .returned (.pointer (some ⟨i, 0, none⟩)) ∧ w.heap.size ≤ i ∧ It w' i g none ∧ Below w.heap.size w w' := by
  go_enter Try.func30, Try.ntmps30
  go_wp2_with (fail)
  go_ret
  exact ⟨w.heap.size, rfl, Nat.le_refl _, blk_new w _, below_alloc (Below.refl _ _) _⟩
theorem head_nxt {G : Nat → Nat → Option Nat} {vh : Value} {size : Int} {w : World} {g : Nat} {hd : Nd S30} {tl : List (Nd S30)} (hL : Lst w g hd tl G vh size) {a c : List (Nd S30)} {y : Nd S30} (e : hd :: tl = a ++ y :: c) : G y.b 0 = c.head?.map Nd.b := by
  have hy : y ∈ hd :: tl := by rw [e]; simp
  rw [hL.lk a y c e 0 (hL.tall y hy).1]
  exact nxt_head fun z hz => (hL.tall z (by rw [e]; simp [hz])).1
theorem iter_First.calls (w0 w : World) (g i : Nat) (hd : Nd S30) (tl : List (Nd S30)) (hs : List Int) (size : Int) (at_ : Option Nat) (hO : LO w0 w g hd tl hs size) (hI : It w i g at_) :
    Calls Try.prog 31 #[.pointer (some ⟨i, 0, none⟩)] w fun e' w' => e' = .returned (.tuple #[]) ∧ w' = w.setCell ⟨i, 1, none⟩ (ptrV (tl.head?.map Nd.b)) := by
  obtain ⟨G, vh, hL, hB, hg, hfn, hr⟩ := hO
  have hc0 : w.cell? ⟨g, 0, none⟩ = some (.pointer (some ⟨hd.b, 0, none⟩)) := by rw [blk_cell hL.blk 0]; rfl
  have hi0 : w.cell? ⟨i, 0, none⟩ = some (.pointer (some ⟨g, 0, none⟩)) := by rw [blk_cell hI 0]; rfl
  obtain ⟨v1, hv1⟩ : ∃ v, w.cell? ⟨i, 1, none⟩ = some v := ⟨_, by rw [blk_cell hI 1]; rfl⟩
  have hf1 := blk_frozen hI 1
  have hNd := hL.nodes hd List.mem_cons_self
  have hcy := hNd.cell
  have hcn := hNd.at (k := 0) (by rw [hL.h8]; decide)
  rw [head_nxt hL (a := []) (y := hd) (c := tl) rfl] at hcn
  obtain ⟨u, hu⟩ : ∃ u, ptrV (tl.head?.map Nd.b) = .pointer u := ⟨_, rfl⟩
  rw [hu] at hcn ⊢
  have h8 := hL.h8
  rw [h8] at hcy
  clear hL hB hr hfn hNd hu hI h8
  go_enter Try.func31, Try.ntmps31
  go_wp2_with (fail)
  go_end0
  exact ⟨rfl, rfl⟩
theorem iter_OK.calls (w : World) (g i : Nat) (at_ : Option Nat) (hI : It w i g at_) :
    Calls Try.prog 32 #[.pointer (some ⟨i, 0, none⟩)] w fun e' w' => e' = .returned (.bool at_.isSome) ∧ w' = w := by
  have hi1 : w.cell? ⟨i, 1, none⟩ = some (ptrV at_) := by rw [blk_cell hI 1]; rfl
  cases at_ with
  | none =>
    rw [ptrV_none] at hi1
    clear hI
    go_enter Try.func32, Try.ntmps32
    go_wp2_with (fail)
    go_ret
    exact ⟨rfl, rfl⟩
  | some b =>
    rw [ptrV_some] at hi1
    clear hI
    go_enter Try.func32, Try.ntmps32
    go_wp2_with (fail)
    go_ret
    exact ⟨rfl, rfl⟩
theorem iter_Entry.calls (w : World) (g i : Nat) (y : Nd S30) (G : Nat → Nat → Option Nat) (hI : It w i g (some y.b)) (hN : NdB w G y) :
    Calls Try.prog 34 #[.pointer (some ⟨i, 0, none⟩)] w fun e' w' => e' = .returned (.agg #[.string y.e.f0, .int .i64 y.e.f1, .int .i64 y.e.f2, .string y.e.f3, .string y.e.f4]) ∧ Below w.heap.size w w' := by
  have HI := Aside0.mk hI
  have HN := Aside0.mk hN
  clear hI hN
  go_enter Try.func34, Try.ntmps34
  go_upto_region 1 with (fail)
  have HB0 : Aside0 (Below w.heap.size w (w.alloc (Obj.cells #[.string ⟨#[]⟩, .int .i64 0, .int .i64 0, .string ⟨#[]⟩, .string ⟨#[]⟩] 30))) := ⟨below_alloc (Below.refl _ _) _⟩
  obtain ⟨gp, hgp⟩ : ∃ gp, gp = w.heap.size := ⟨_, rfl⟩
  have hbx0 := blk_new w (Obj.cells #[.string ⟨#[]⟩, .int .i64 0, .int .i64 0, .string ⟨#[]⟩, .string ⟨#[]⟩] 30)
  rw [← hgp] at hbx0 ⊢
  have hgp1 : w.heap.size ≤ gp := by omega
  generalize w.alloc (Obj.cells #[.string ⟨#[]⟩, .int .i64 0, .int .i64 0, .string ⟨#[]⟩, .string ⟨#[]⟩] 30) = w1 at *
  have HBX := Aside0.mk hbx0
  clear hbx0 hgp
  have hI1 : It w1 i g (some y.b) := blk_below HI.out HB0.out
  have hi1 : w1.cell? ⟨i, 1, none⟩ = some (.pointer (some ⟨y.b, 0, none⟩)) := by rw [blk_cell hI1 1]; rfl
  have HI1 := Aside0.mk hI1
  clear hI1
  obtain ⟨hx0, hx1, hx2, hx3, hx4⟩ := (HN.out.below HB0.out).ent_cells
  obtain ⟨hb0, hb1, hb2, hb3, hb4⟩ := box_cells (e := zE) HBX.out
  have hf0 := blk_frozen HBX.out 0
  have hf1 := blk_frozen HBX.out 1
  have hf2 := blk_frozen HBX.out 2
  have hf3 := blk_frozen HBX.out 3
  have hf4 := blk_frozen HBX.out 4
  go_wp2_with (fail)
  refine (iter_OK.calls w1 g i (some y.b) HI1.out).mono ?_
  rintro e' w2 ⟨rfl, rfl⟩
  go_wp2_with (fail)
  refine bodyPost_ret (results_cell_row rfl _ _ gp 30 #[.string y.e.f0, .int .i64 y.e.f1, .int .i64 y.e.f2, .string y.e.f3, .string y.e.f4] (0, 0) _ rfl (set5_blk HBX.out y.e) Try.underlying30 rfl (by kernel_rfl)) rfl ?_
  exact ⟨rfl, set5_below HB0.out hgp1 y.e⟩
theorem iter_Next.calls (w0 w : World) (g i : Nat) (hd : Nd S30) (tl a c : List (Nd S30)) (y : Nd S30) (hs : List Int) (size : Int) (hO : LO w0 w g hd tl hs size) (hI : It w i g (some y.b)) (e : hd :: tl = a ++ y :: c) :
    Calls Try.prog 33 #[.pointer (some ⟨i, 0, none⟩)] w fun e' w' => e' = .returned (.tuple #[]) ∧ w' = w.setCell ⟨i, 1, none⟩ (ptrV (c.head?.map Nd.b)) := by
  obtain ⟨G, vh, hL, hB, hg, hfn, hr⟩ := hO
  have HI := Aside0.mk hI
  have hi1 : w.cell? ⟨i, 1, none⟩ = some (.pointer (some ⟨y.b, 0, none⟩)) := by rw [blk_cell hI 1]; rfl
  have hf1 := blk_frozen hI 1
  have hy : y ∈ hd :: tl := by rw [e]; simp
  have hNd := hL.nodes y hy
  have hcy := hNd.cell
  have hyh : 0 < y.h := (hL.tall y hy).1
  have hcn := hNd.at (k := 0) hyh
  rw [head_nxt hL e] at hcn
  obtain ⟨u, hu⟩ : ∃ u, ptrV (c.head?.map Nd.b) = .pointer u := ⟨_, rfl⟩
  rw [hu] at hcn ⊢
  have hyh1 : ((0 : Int) < (y.h : Int)) = True := eq_true (by omega)
  have hyh2 : (0 < y.h) = True := eq_true hyh
  clear hL hB hr hfn hNd hu hI e hy hyh
  go_enter Try.func33, Try.ntmps33
  go_wp2_with (fail)
  refine (iter_OK.calls w g i (some y.b) HI.out).mono ?_
  rintro e' w2 ⟨rfl, rfl⟩
  go_wp2_with (fail)
  go_end0
  exact ⟨rfl, rfl⟩
end Go.Proofs.Ytoglanahjlfihaa.MLst
