import Derived.Test.YtoglanahjlfihaaHLst3
namespace Go.Proofs.Ytoglanahjlfihaa.MLst
open Go.RowKit Go.Proofs.Ytoglanahjlfihaa.QLst Go.Proofs.YtoglanahjlfihaaW.PrintWords Go.Proofs.YtoglanahjlfihaaW.PrintLast Go.Proofs.YtoglanahjlfihaaW.PrintMore
set_option linter.unusedVariables false
set_option linter.unusedSimpArgs false
theorem nxt_head {l : List (Nd S30)} (h : ∀ y ∈ l, 1 ≤ y.h) : nxt l 0 = l.head?.map Nd.b := by
  cases l with
  | nil => rfl
  | cons x r =>
    have := h x List.mem_cons_self
    exact nxt_mid (c := []) (d := r) (fun z hz => by cases hz) (by omega)
set_option maxHeartbeats 8000000 in
set_option maxRecDepth 100000 in
theorem list_from.calls (w : World) (g : Nat) (hd : Nd S30) (tl pl post : List (Nd S30)) (G : Nat → Nat → Option Nat) (vh : Value) (size : Int) (e : S30) (hL : Lst w g hd tl G vh size) (htl : pl ++ post = tl) (hlo : ∀ y ∈ pl, ltE y.e e = true) (hhi : ∀ y ∈ post, ltE y.e e = false) :
    Calls Try.prog 51 #[.pointer (some ⟨g, 0, none⟩), .agg #[.string e.f0, .int .i64 e.f1, .int .i64 e.f2, .string e.f3, .string e.f4]] w fun e' w' => e' = .returned (ptrV (post.head?.map Nd.b)) ∧ Below w.heap.size w w' := by
  have HL := Aside0.mk hL
  clear hL
  obtain ⟨u, hu⟩ : ∃ u, ptrV (post.head?.map Nd.b) = .pointer u := ⟨_, rfl⟩
  rw [hu]
  have HU := Aside0.mk hu
  clear hu
  go_enter Try.func51, Try.ntmps51
  go_upto_region 1 with (fail)
  have HB0 : Aside0 (Below w.heap.size w (w.alloc (Obj.cells #[.string e.f0, .int .i64 e.f1, .int .i64 e.f2, .string e.f3, .string e.f4] 30))) := ⟨below_alloc (Below.refl _ _) _⟩
  have hbx := box_cells (e := e) (blk_new w (Obj.cells #[.string e.f0, .int .i64 e.f1, .int .i64 e.f2, .string e.f3, .string e.f4] 30))
  obtain ⟨hb0, hb1, hb2, hb3, hb4⟩ := hbx
  have hL1 := HL.out.below HB0.out
  generalize w.alloc (Obj.cells #[.string e.f0, .int .i64 e.f1, .int .i64 e.f2, .string e.f3, .string e.f4] 30) = w1 at *
  have HL1 := Aside0.mk hL1
  clear hL1
  go_wp2_with (fail)
  refine (list_before.calls w1 g hd tl pl post G vh size e HL1.out htl hlo hhi).mono ?_
  rintro e' w2 ⟨gw, W, rfl, hb, hgw, hw, hway⟩
  have HB2 := Aside0.mk (below_step HB0.out hb)
  obtain ⟨y, ⟨a, c, hp, hy, hc⟩, hW⟩ := hway 0 (by decide)
  have hns : hd :: tl = a ++ y :: (c ++ post) := by rw [← htl, ← List.cons_append, hp, List.append_assoc, List.cons_append]
  have hlk : G y.b 0 = nxt (c ++ post) 0 := HL.out.lk a y (c ++ post) hns 0 hy
  rw [nxt_skip hc, nxt_head (fun z hz => (HL.out.tall z (by rw [hns]; simp [hz])).1)] at hlk
  have hN := (HL.out.nodes y (by rw [hns]; simp)).below HB2.out
  have hcw : w2.cell? ⟨gw, 0, none⟩ = some (.pointer (some ⟨y.b, 0, none⟩)) := by rw [blk_cell hw, rowV_get (by decide), hW]; rfl
  have hcy := hN.cell
  have hcn := hN.at hy
  rw [hlk] at hcn
  rw [HU.out] at hcn
  have hi1 : (0 < (y.h : Int)) = True := eq_true (by omega)
  have hi2 : (0 < y.h) = True := eq_true hy
  clear hb hw hway hp hc hW hns hlk hN hy
  go_wp2_with (fail)
  go_ret
  exact ⟨rfl, HB2.out⟩
end Go.Proofs.Ytoglanahjlfihaa.MLst
