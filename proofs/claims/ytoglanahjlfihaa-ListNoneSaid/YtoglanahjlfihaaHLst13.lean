import Derived.Test.YtoglanahjlfihaaHLst12
namespace Go.Proofs.Ytoglanahjlfihaa.MLst
open Go.RowKit Go.Proofs.Ytoglanahjlfihaa.QLst Go.Proofs.YtoglanahjlfihaaW.PrintWords Go.Proofs.YtoglanahjlfihaaW.PrintLast Go.Proofs.YtoglanahjlfihaaW.PrintMore
set_option linter.unusedVariables false
set_option linter.unusedSimpArgs false
theorem nil_Get.calls (w : World) (norm : ByteArray) (seq : Int) : Calls Try.prog 18 #[.pointer none, .string norm, .int .i64 seq] w fun e' w' => e' = .returned (.tuple #[.agg #[.string ⟨#[]⟩, .int .i64 0, .int .i64 0, .string ⟨#[]⟩, .string ⟨#[]⟩], .bool false]) ∧ Below w.heap.size w w' := by
  go_enter Try.func18, Try.ntmps18
  go_upto_region 1 with (fail)
  have HB0 : Aside0 (Below w.heap.size w (w.alloc (Obj.cells #[.string ⟨#[]⟩, .int .i64 0, .int .i64 0, .string ⟨#[]⟩, .string ⟨#[]⟩] 30))) := ⟨below_alloc (Below.refl _ _) _⟩
  obtain ⟨gp, hgp⟩ : ∃ gp, gp = w.heap.size := ⟨_, rfl⟩
  have hbx0 := blk_new w (Obj.cells #[.string ⟨#[]⟩, .int .i64 0, .int .i64 0, .string ⟨#[]⟩, .string ⟨#[]⟩] 30)
  rw [← hgp] at hbx0 ⊢
  have hgp1 : w.heap.size ≤ gp := by omega
  generalize w.alloc (Obj.cells #[.string ⟨#[]⟩, .int .i64 0, .int .i64 0, .string ⟨#[]⟩, .string ⟨#[]⟩] 30) = w1 at *
  have HBX := Aside0.mk hbx0
  clear hbx0 hgp
  obtain ⟨hb0, hb1, hb2, hb3, hb4⟩ := box_cells (e := zE) HBX.out
  have hf0 := blk_frozen HBX.out 0
  have hf1 := blk_frozen HBX.out 1
  have hf2 := blk_frozen HBX.out 2
  have hf3 := blk_frozen HBX.out 3
  have hf4 := blk_frozen HBX.out 4
  go_wp2_with (fail)
  refine bodyPost_ret (results_ct rfl _ _ gp 30 #[.string ⟨#[]⟩, .int .i64 0, .int .i64 0, .string ⟨#[]⟩, .string ⟨#[]⟩] (0, 0) _ rfl (set5_blk HBX.out zE) Try.underlying30 rfl (by kernel_rfl)) rfl ?_
  exact ⟨rfl, set5_below HB0.out hgp1 zE⟩
set_option maxRecDepth 100000 in
theorem nil_Put.calls (w : World) (e : S30) : Calls Try.prog 17 #[.pointer none, .agg #[.string e.f0, .int .i64 e.f1, .int .i64 e.f2, .string e.f3, .string e.f4]] w fun e' w' => e' = .returned (.bool false) ∧ Below w.heap.size w w' := by
  go_enter Try.func17, Try.ntmps17
  go_wp2_with (fail)
  go_ret
  exact ⟨rfl, below_alloc (Below.refl _ _) _⟩
theorem nil_Len.calls (w : World) : Calls Try.prog 22 #[.pointer none] w fun e' w' => e' = .returned (.int .i64 0) ∧ w' = w := by
  go_enter Try.func22, Try.ntmps22
  go_wp2_with (fail)
  go_ret
  exact ⟨rfl, rfl⟩
theorem nil_Size.calls (w : World) : Calls Try.prog 50 #[.pointer none] w fun e' w' => e' = .returned (.int .i64 0) ∧ w' = w := by
  go_enter Try.func50, Try.ntmps50
  go_wp2_with (fail)
  go_ret
  exact ⟨rfl, rfl⟩
theorem nil_All.calls (w : World) : Calls Try.prog 20 #[.pointer none] w fun e' w' => e' = .returned (.slice none 0 0) ∧ w' = w := by
  go_enter Try.func20, Try.ntmps20
  go_wp2_with (fail)
  go_ret
  exact ⟨rfl, rfl⟩
theorem nil_OK.calls (w : World) : Calls Try.prog 32 #[.pointer none] w fun e' w' => e' = .returned (.bool false) ∧ w' = w := by
  go_enter Try.func32, Try.ntmps32
  go_wp2_with (fail)
  go_ret
  exact ⟨rfl, rfl⟩
theorem nil_First.calls (w : World) : Calls Try.prog 31 #[.pointer none] w fun e' w' => e' = .returned (.tuple #[]) ∧ w' = w := by
  go_enter Try.func31, Try.ntmps31
  go_wp2_with (fail)
  go_end0
  exact ⟨rfl, rfl⟩
theorem nil_Last.calls (w : World) : Calls Try.prog 35 #[.pointer none] w fun e' w' => e' = .returned (.tuple #[]) ∧ w' = w := by
  go_enter Try.func35, Try.ntmps35
  go_wp2_with (fail)
  refine bodyPost_ret (results_none rfl _ _ _) rfl ?_
  exact ⟨rfl, rfl⟩
theorem nil_Seek.calls (w : World) (norm : ByteArray) (seq : Int) : Calls Try.prog 49 #[.pointer none, .string norm, .int .i64 seq] w fun e' w' => e' = .returned (.tuple #[]) ∧ w' = w := by
  go_enter Try.func49, Try.ntmps49
  go_wp2_with (fail)
  go_end0
  exact ⟨rfl, rfl⟩
theorem nil_Next.calls (w : World) : Calls Try.prog 33 #[.pointer none] w fun e' w' => e' = .returned (.tuple #[]) ∧ w' = w := by
  go_enter Try.func33, Try.ntmps33
  go_wp2_with (fail)
  refine (nil_OK.calls w).mono ?_
  rintro e w1 ⟨rfl, rfl⟩
  go_wp2_with (fail)
  go_end0
  exact ⟨rfl, rfl⟩
theorem nil_Prev.calls (w : World) : Calls Try.prog 36 #[.pointer none] w fun e' w' => e' = .returned (.tuple #[]) ∧ w' = w := by
  go_enter Try.func36, Try.ntmps36
  go_wp2_with (fail)
  refine (nil_OK.calls w).mono ?_
  rintro e w1 ⟨rfl, rfl⟩
  go_wp2_with (fail)
  refine bodyPost_ret (results_none rfl _ _ _) rfl ?_
  exact ⟨rfl, rfl⟩
theorem nil_Entry.calls (w : World) : Calls Try.prog 34 #[.pointer none] w fun e' w' => e' = .returned (.agg #[.string ⟨#[]⟩, .int .i64 0, .int .i64 0, .string ⟨#[]⟩, .string ⟨#[]⟩]) ∧ Below w.heap.size w w' := by
  go_enter Try.func34, Try.ntmps34
  go_upto_region 1 with (fail)
  have HB0 : Aside0 (Below w.heap.size w (w.alloc (Obj.cells #[.string ⟨#[]⟩, .int .i64 0, .int .i64 0, .string ⟨#[]⟩, .string ⟨#[]⟩] 30))) := ⟨below_alloc (Below.refl _ _) _⟩
  obtain ⟨gp, hgp⟩ : ∃ gp, gp = w.heap.size := ⟨_, rfl⟩
  have hbx0 := blk_new w (Obj.cells #[.string ⟨#[]⟩, .int .i64 0, .int .i64 0, .string ⟨#[]⟩, .string ⟨#[]⟩] 30)
  rw [← hgp] at hbx0 ⊢
  have hgp1 : w.heap.size ≤ gp := by omega
  generalize w.alloc (Obj.cells #[.string ⟨#[]⟩, .int .i64 0, .int .i64 0, .string ⟨#[]⟩, .string ⟨#[]⟩] 30) = w1 at *
  have HBX := Aside0.mk hbx0
  clear hbx0 hgp
  obtain ⟨hb0, hb1, hb2, hb3, hb4⟩ := box_cells (e := zE) HBX.out
  have hf0 := blk_frozen HBX.out 0
  have hf1 := blk_frozen HBX.out 1
  have hf2 := blk_frozen HBX.out 2
  have hf3 := blk_frozen HBX.out 3
  have hf4 := blk_frozen HBX.out 4
  go_wp2_with (fail)
  refine (nil_OK.calls w1).mono ?_
  rintro e w2 ⟨rfl, rfl⟩
  go_wp2_with (fail)
  refine bodyPost_ret (results_cell_row rfl _ _ gp 30 #[.string ⟨#[]⟩, .int .i64 0, .int .i64 0, .string ⟨#[]⟩, .string ⟨#[]⟩] (0, 0) _ rfl (set5_blk HBX.out zE) Try.underlying30 rfl (by kernel_rfl)) rfl ?_
  exact ⟨rfl, set5_below HB0.out hgp1 zE⟩
set_option maxHeartbeats 8000000 in
set_option maxRecDepth 100000 in
theorem incipitlaw14_ListNone.calls (w : World) : Calls Try.prog 14 #[] w fun e w' => e = .returned (.bool true) ∧ Below w.heap.size w w' := by
  go_enter Try.func14, Try.ntmps14
  go_wp2_with (fail)
  refine (nil_Get.calls w ⟨#[97]⟩ 1).mono ?_
  rintro e w1 ⟨rfl, hb⟩
  have HB1 := Aside0.mk hb
  clear hb
  go_wp2_with (fail)
  obtain ⟨w2, hw2⟩ : ∃ w2, w2 = w1.alloc (Obj.cells #[.string ⟨#[]⟩, .int .i64 0, .int .i64 0, .string ⟨#[]⟩, .string ⟨#[]⟩] 30) := ⟨_, rfl⟩
  rw [← hw2]
  have HB2 : Aside0 (Below w.heap.size w w2) := ⟨by rw [hw2]; exact below_alloc HB1.out _⟩
  clear hw2 HB1
  refine (nil_First.calls w2).mono ?_
  rintro e w3 ⟨rfl, rfl⟩
  go_wp2_with (fail)
  refine (nil_Last.calls w3).mono ?_
  rintro e w4 ⟨rfl, rfl⟩
  go_wp2_with (fail)
  refine (nil_Next.calls w4).mono ?_
  rintro e w5 ⟨rfl, rfl⟩
  go_wp2_with (fail)
  refine (nil_Prev.calls w5).mono ?_
  rintro e w6 ⟨rfl, rfl⟩
  go_wp2_with (fail)
  refine (nil_Seek.calls w6 ⟨#[97]⟩ 1).mono ?_
  rintro e w7 ⟨rfl, rfl⟩
  go_wp2_with (fail)
  refine (incipitlaw14_begun.calls w7).mono ?_
  rintro e w8 ⟨rfl, hb⟩
  have HB8 := Aside0.mk (below_step HB2.out hb)
  clear hb HB2
  go_wp2_with (fail)
  refine (nil_Put.calls w8 zE).mono ?_
  rintro e w9 ⟨rfl, hb⟩
  have HB9 := Aside0.mk (below_step HB8.out hb)
  clear hb HB8
  go_wp2_with (fail)
  refine (nil_Len.calls w9).mono ?_
  rintro e w10 ⟨rfl, rfl⟩
  go_wp2_with (fail)
  refine (nil_Size.calls w10).mono ?_
  rintro e w11 ⟨rfl, rfl⟩
  go_wp2_with (fail)
  refine (nil_All.calls w11).mono ?_
  rintro e w12 ⟨rfl, rfl⟩
  go_wp2_with (fail)
  refine (nil_OK.calls w12).mono ?_
  rintro e w13 ⟨rfl, rfl⟩
  go_wp2_with (fail)
  refine (nil_Entry.calls w13).mono ?_
  rintro e w14 ⟨rfl, hb⟩
  have hfd := field30_1 ⟨#[]⟩ 0 0 ⟨#[]⟩ ⟨#[]⟩
  have HB14 := Aside0.mk (below_step HB9.out hb)
  clear hb HB9
  go_wp2_with (fail)
  go_ret
  exact ⟨rfl, HB14.out⟩
end Go.Proofs.Ytoglanahjlfihaa.MLst
