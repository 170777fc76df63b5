import Derived.Test.YtenmljkddhonmaaY1
-- Written by a program of this session for this claim (out of the translation's print); Lean checks it.
namespace Go.Proofs.Ytenmljkddhonmaa.MTbl
open Go.RowKit Go.Proofs.YtenmljkddhonmaaW.PrintWords Go.Proofs.YtenmljkddhonmaaW.PrintLast Go.Proofs.YtenmljkddhonmaaW.PrintMore
attribute [local go_sem] max2_int min2_int max_two min_two max_three min_three max_four min_four   -- for this text's walks alone
set_option linter.unusedVariables false
set_option linter.unusedSimpArgs false

/-! ### varint_Get: function 76 -/
def varint_Get.l0 : Nat → Int → List Int → Int → Int → Option (Int × Int)
 | 0, _, _, _, _ => none
 | k + 1,x4,x11,x12,x13=>if x13 < x12 then (if 0 ≤ x13 then (if x13 < (x11.length : Int) then (if 0 ≤ (wrap64 (7 * x13)) then (if (rd x11 x13) > 127 then (varint_Get.l0 k (Go.bits .or .u64 x4 (shl .u64 (IntKind.u64.wrap (Go.bits .and .u8 (rd x11 x13) 127)) (wrap64 (7 * x13)))) x11 x12 (wrap64 (x13 + 1))) else (if x13 > 0 then (if (rd x11 x13) = 0 then (some (0,0)) else (if x13 = 9 then (if (rd x11 x13) > 1 then (some (0,0)) else (some (Go.bits .or .u64 x4 (shl .u64 (IntKind.u64.wrap (Go.bits .and .u8 (rd x11 x13) 127)) (wrap64 (7 * x13))),wrap64 (x13 + 1)))) else (some (Go.bits .or .u64 x4 (shl .u64 (IntKind.u64.wrap (Go.bits .and .u8 (rd x11 x13) 127)) (wrap64 (7 * x13))),wrap64 (x13 + 1))))) else (if x13 = 9 then (if (rd x11 x13) > 1 then (some (0,0)) else (some (Go.bits .or .u64 x4 (shl .u64 (IntKind.u64.wrap (Go.bits .and .u8 (rd x11 x13) 127)) (wrap64 (7 * x13))),wrap64 (x13 + 1)))) else (some (Go.bits .or .u64 x4 (shl .u64 (IntKind.u64.wrap (Go.bits .and .u8 (rd x11 x13) 127)) (wrap64 (7 * x13))),wrap64 (x13 + 1)))))) else (none)) else (none)) else (none)) else (some (0,0))
def varint_Get.f (k : Nat) (l0 : List Int) : Option (Int × Int):=if 0 ≤ (mn (l0.length : Int) 10) then (if (mn (l0.length : Int) 10) ≤ (l0.length : Int) then ((some (l0.take ((mn (l0.length : Int) 10) : Int).toNat : List Int)).bind fun y203=>(varint_Get.l0 k 0 y203 (y203.length : Int) 0)) else (none)) else (none)
theorem varint_Get.mono_l : ∀ k, (∀ y0 y1 y2 y3, LeO (varint_Get.l0 k y0 y1 y2 y3) (varint_Get.l0 (k + 1) y0 y1 y2 y3))
 | 0 => fun _ _ _ _ r h => by simp [varint_Get.l0] at h
 | k + 1 => by
  have ih0 := varint_Get.mono_l k
  ·intro y0 y1 y2 y3
   unfold varint_Get.l0
   repeat' first
  |(with_reducible exact ih0 _ _ _ _)
  |(with_reducible exact LeO.refl _)
  |(with_reducible exact LeO.none _)
  |(with_reducible refine LeO.ite ?_ ?_)
  |(with_reducible refine LeO.bind ?_ (fun _ => ?_))
  |exact ih0 _ _ _ _
  |exact LeO.none _
  |refine LeO.ite ?_ ?_
  |refine LeO.bind ?_ (fun _ => ?_)
theorem varint_Get.mono : ∀ a0 k, LeO (varint_Get.f k a0) (varint_Get.f (k + 1) a0) := by
 intro a0 k
 have ih0 := varint_Get.mono_l k
 unfold varint_Get.f
 repeat' first
  |(with_reducible exact ih0 _ _ _ _)
  |(with_reducible exact LeO.refl _)
  |(with_reducible exact LeO.none _)
  |(with_reducible refine LeO.ite ?_ ?_)
  |(with_reducible refine LeO.bind ?_ (fun _ => ?_))
  |exact ih0 _ _ _ _
  |exact LeO.none _
  |refine LeO.ite ?_ ?_
  |refine LeO.bind ?_ (fun _ => ?_)
set_option maxHeartbeats 80000000 in
set_option maxRecDepth 100000 in
theorem varint_Get.calls (k : Nat) (A0 : Option Addr) (c0 : Nat) (l0 : List Int) (r1 : Int) (r2 : Int) (w : World) (hr0 : Kd.C (Kd.int .u8) w A0 l0.length l0) (hc0 : l0.length ≤ c0) (h : varint_Get.f k l0 = some (r1,r2)) :
  Calls Try.prog 76 #[.slice A0 l0.length c0] w fun e w'=>e = .returned (.tuple #[.int .u64 r1,.int .i64 r2])∧Below w.heap.size w w':=by
 have HR0 := Aside0.mk hr0
 have HC0 := Aside0.mk hc0
 clear hr0 hc0
 have HB := Aside0.mk (Below.refl w.heap.size w)
 have H : (if 0 ≤ (mn (l0.length : Int) 10) then (if (mn (l0.length : Int) 10) ≤ (l0.length : Int) then ((some (l0.take ((mn (l0.length : Int) 10) : Int).toNat : List Int)).bind fun y203=>(varint_Get.l0 k 0 y203 (y203.length : Int) 0)) else (none)) else (none)) = some (r1,r2):=h
 clear h
 obtain ⟨ji2, hji2⟩ : ∃ j_ : Int, (mn (l0.length : Int) 10) = j_ := ⟨_, rfl⟩
 replace H : (if 0 ≤ (ji2) then (if (ji2) ≤ (l0.length : Int) then ((some (l0.take ((ji2) : Int).toNat : List Int)).bind fun y203=>(varint_Get.l0 k 0 y203 (y203.length : Int) 0)) else (none)) else (none)) = some (r1,r2):=by first|(rw [hji2] at H;exact H)|(simp only [hji2] at H ⊢;exact H)
 (try (have hji2h : ji2 ≤ 10 := by (rw [← hji2]; unfold mn; (repeat' split) <;> omega)))
 (try (have hji2g : ji2 ≤ 64 := by omega))
 (try (have hji2l : 0 ≤ ji2 := by (rw [← hji2]; unfold mn; (repeat' split) <;> omega)))
 (try (have hji2m : 0 ≤ ji2 := by omega))
 have hji2_ : (if 10 < (l0.length : Int) then 10 else (l0.length : Int)) = ji2 := hji2
 by_cases c3 : 0 ≤ (ji2)
 ·rw [if_pos c3] at H
  have c3b0 := eq_true c3
  have c3b1 : decide (0 ≤ (ji2)) = true := decide_eq_true c3
  clear c3
  by_cases c4 : (ji2) ≤ (l0.length : Int)
  ·rw [if_pos c4] at H
   have c4b0 := eq_true c4
   have c4b1 : decide ((ji2) ≤ (l0.length : Int)) = true := decide_eq_true c4
   clear c4
   obtain ⟨y203, hy203⟩ : ∃ y_ : List Int, y_ = (l0.take ((ji2) : Int).toNat) := ⟨_, rfl⟩
   replace H : (varint_Get.l0 k 0 y203 (y203.length : Int) 0) = some (r1,r2):=by first|(rw [hy203];with_reducible exact H)|(have H2_:=(Option.bind_some _ _).symm.trans H;rw [hy203];with_reducible exact H2_)|(have H2_:=(Option.bind_some _ _).symm.trans H;with_reducible exact H2_) | with_reducible exact H|(rw [hy203];exact H)|exact H
   have Ny203 := Aside0.mk hy203
   clear hy203
   have H' := Aside0.mk H
   clear H
   have q5 : ((ji2) : Int) ≤ ((l0.length : Int) : Int):=of_decide_eq_true (by first|(with_reducible assumption) | assumption)
   obtain ⟨i05, hi05, _, hsz5, _⟩ := info_parts info5
   have hroom5 : l0.length ≤ c0 := HC0.out
   have hC5 : Kd.C (Kd.int .u8) _ A0 l0.length l0 := HR0.out
   have hcut5:=cut_to (P:=Try.prog) 43 5 .i64 Try.underlying43 hi05 A0 l0.length c0 (ji2) (of_decide_eq_true (by first|(with_reducible assumption) | assumption)) q5 hroom5
   have hr5 := Kd.C_take (m := ((ji2) : Int).toNat) hC5 (by omega)
   have hy5 : y203.length = ((ji2) : Int).toNat := (by rw [Ny203.out, List.length_take]; omega)
   rw [← Ny203.out] at hr5
   rw [← hy5] at hcut5
   have HR206 := Aside0.mk hr5
   have HC206 := Aside0.mk (show y203.length ≤ c0 from by omega)
   clear hr5 hC5 hroom5 hi05 hsz5
   have KY5 := Aside0.mk hy5
   clear hy5
   replace q5 := eq_true q5
   go_enter Try.func76, Try.ntmps76
   go_wp2
   go_loopg [4,13] k (fun kq v4 v13 w'=>∃ (x4_1 : Int) (x13_1 : Int),v4 = .int .u64 x4_1∧v13 = .int .i64 x13_1∧Aside0 (varint_Get.l0 kq x4_1 y203 (y203.length : Int) x13_1 = some (r1,r2))∧Aside0 (kq ≤ k)∧Aside0 (Below w.heap.size w w'))
   case atStart=>exact ⟨(0),(0),(by first | rfl|(simp;done)|(simp [*];done)),(by first | rfl|(simp;done)|(simp [*];done)),H',⟨Nat.le_refl _⟩,⟨by repeat (first|(with_reducible first|exact HB.out|apply below_alloc|apply pw_below_drewN|apply below_drew1)|exact HB.out)⟩⟩
   case round =>
    clear H'
    try clear p2
    try clear c3
    try clear c3b0
    try clear c3b1
    try clear c4
    try clear c4b0
    try clear c4b1
    try clear q5
    try clear q5
    obtain ⟨x4_1, x13_1, rfl, rfl, HA, HK1, HB⟩ := hrel
    cases gk with
    | zero => exact absurd HA.out (by simp [varint_Get.l0])
    | succ k1 =>
     have H := HA.out
     clear HA
     simp only [varint_Get.l0] at H
     by_cases c6 : x13_1 < (y203.length : Int)
     ·rw [if_pos c6] at H
      have c6b0 : decide (x13_1 < (y203.length : Int)) = true := decide_eq_true c6
      clear c6
      by_cases c7 : 0 ≤ x13_1
      ·rw [if_pos c7] at H
       have c7b0 : decide (0 ≤ x13_1) = true := decide_eq_true c7
       clear c7
       by_cases c8 : x13_1 < (y203.length : Int)
       ·rw [if_pos c8] at H
        have c8b0 : decide (x13_1 < (y203.length : Int)) = true := decide_eq_true c8
        clear c8
        obtain ⟨ji9, hji9⟩ : ∃ j_ : Int, (wrap64 (7 * x13_1)) = j_ := ⟨_, rfl⟩
        replace H : (if 0 ≤ (ji9) then (if (rd y203 x13_1) > 127 then (varint_Get.l0 k1 (Go.bits .or .u64 x4_1 (shl .u64 (IntKind.u64.wrap (Go.bits .and .u8 (rd y203 x13_1) 127)) (ji9))) y203 (y203.length : Int) (wrap64 (x13_1 + 1))) else (if x13_1 > 0 then (if (rd y203 x13_1) = 0 then (some (0,0)) else (if x13_1 = 9 then (if (rd y203 x13_1) > 1 then (some (0,0)) else (some (Go.bits .or .u64 x4_1 (shl .u64 (IntKind.u64.wrap (Go.bits .and .u8 (rd y203 x13_1) 127)) (ji9)),wrap64 (x13_1 + 1)))) else (some (Go.bits .or .u64 x4_1 (shl .u64 (IntKind.u64.wrap (Go.bits .and .u8 (rd y203 x13_1) 127)) (ji9)),wrap64 (x13_1 + 1))))) else (if x13_1 = 9 then (if (rd y203 x13_1) > 1 then (some (0,0)) else (some (Go.bits .or .u64 x4_1 (shl .u64 (IntKind.u64.wrap (Go.bits .and .u8 (rd y203 x13_1) 127)) (ji9)),wrap64 (x13_1 + 1)))) else (some (Go.bits .or .u64 x4_1 (shl .u64 (IntKind.u64.wrap (Go.bits .and .u8 (rd y203 x13_1) 127)) (ji9)),wrap64 (x13_1 + 1)))))) else (none)) = some (r1,r2):=by first|(rw [hji9] at H;exact H)|(simp only [hji9] at H ⊢;exact H)
        have hji9w : (IntKind.i64.wrap (7 * x13_1)) = ji9 := (i64_w _).trans hji9
        by_cases c10 : 0 ≤ (ji9)
        ·rw [if_pos c10] at H
         have c10b0 := eq_true c10
         have c10b1 : decide (0 ≤ (ji9)) = true := decide_eq_true c10
         clear c10
         obtain ⟨ji11,hji11⟩ : ∃ j_ : Int,(shl .u64 (IntKind.u64.wrap (Go.bits .and .u8 (rd y203 x13_1) 127)) (ji9)) = j_:=⟨_,rfl⟩
         replace H : (if (rd y203 x13_1) > 127 then (varint_Get.l0 k1 (Go.bits .or .u64 x4_1 (ji11)) y203 (y203.length : Int) (wrap64 (x13_1 + 1))) else (if x13_1 > 0 then (if (rd y203 x13_1) = 0 then (some (0,0)) else (if x13_1 = 9 then (if (rd y203 x13_1) > 1 then (some (0,0)) else (some (Go.bits .or .u64 x4_1 (ji11),wrap64 (x13_1 + 1)))) else (some (Go.bits .or .u64 x4_1 (ji11),wrap64 (x13_1 + 1))))) else (if x13_1 = 9 then (if (rd y203 x13_1) > 1 then (some (0,0)) else (some (Go.bits .or .u64 x4_1 (ji11),wrap64 (x13_1 + 1)))) else (some (Go.bits .or .u64 x4_1 (ji11),wrap64 (x13_1 + 1)))))) = some (r1,r2):=by first|(rw [hji11] at H;exact H)|(simp only [hji11] at H ⊢;exact H)
         have hji11_ : (IntKind.u64.wrap ((IntKind.u64.wrap (Go.bits .and .u8 (rd y203 x13_1) 127)) * 2 ^ min (ji9).toNat 64)) = ji11:=hji11
         have hji11z : (ji9) ≤ 64 → (IntKind.u64.wrap ((IntKind.u64.wrap (Go.bits .and .u8 (rd y203 x13_1) 127)) * 2 ^ (ji9).toNat)) = ji11:=shl_small hji11
         by_cases c12 : (rd y203 x13_1) > 127
         ·rw [if_pos c12] at H
          have c12b0 : decide (127 < (rd y203 x13_1)) = true := decide_eq_true c12
          clear c12
          have H' := Aside0.mk H
          clear H
          have p207 : 0 ≤ (x13_1 : Int) := of_decide_eq_true (by first|(with_reducible assumption) | assumption)
          have q207 : x13_1 < (y203.length : Int):=of_decide_eq_true (by first|(with_reducible assumption) | assumption)
          obtain ⟨ad207, e207, hx207_0⟩ := Kd.at_int HR206.out x13_1 p207 q207
          cases e207
          replace hx207_0 := (HB.out.cell (World.block_lt_of_cell? w _ hx207_0)).trans hx207_0
          replace p207 := eq_true p207
          replace q207 := eq_true q207
          go_wp2
          go_roundg k1
          case measure => have := HK1.out; omega
          case rel=>exact ⟨(Go.bits .or .u64 x4_1 (ji11)),(wrap64 (x13_1 + 1)),(by first | rfl|(simp;done)|(simp only [← hji11] <;> (first | rfl | simp))|(simp [*];done)),(by first | rfl|(simp;done)|(simp [*];done)),H',⟨by have:=HK1.out;omega⟩,⟨by repeat (first|(with_reducible first|exact HB.out|apply below_alloc|apply pw_below_drewN|apply below_drew1)|exact HB.out)⟩⟩
         ·rw [if_neg c12] at H
          have c12b0 : decide (127 < (rd y203 x13_1)) = false := decide_eq_false c12
          clear c12
          by_cases c13 : x13_1 > 0
          ·rw [if_pos c13] at H
           have c13b0 : decide (0 < x13_1) = true := decide_eq_true c13
           clear c13
           by_cases c14 : (rd y203 x13_1) = 0
           ·rw [if_pos c14] at H
            have c14b0 : ((rd y203 x13_1) == 0) = true := beq_iff_eq.mpr c14
            have c14b1 : ((rd y203 x13_1) != 0) = false := bne_eq_false_iff_eq.mpr c14
            clear c14
            simp only [Option.some.injEq, Prod.mk.injEq] at H
            obtain ⟨rfl, rfl⟩ := H
            have p207 : 0 ≤ (x13_1 : Int) := of_decide_eq_true (by first|(with_reducible assumption) | assumption)
            have q207 : x13_1 < (y203.length : Int):=of_decide_eq_true (by first|(with_reducible assumption) | assumption)
            obtain ⟨ad207, e207, hx207_0⟩ := Kd.at_int HR206.out x13_1 p207 q207
            cases e207
            replace hx207_0 := (HB.out.cell (World.block_lt_of_cell? w _ hx207_0)).trans hx207_0
            replace p207 := eq_true p207
            replace q207 := eq_true q207
            go_wp2
            go_ret2
            exact ⟨by first | rfl|(simp [errW_none,errW_some] <;> rfl)|(simp only [← hji2,← hji9,← hji11];first | rfl|(simp [errW_none,errW_some] <;> rfl))|(simp [*,errW_none,errW_some] <;> rfl),by repeat (first|(with_reducible first|exact HB.out|apply below_alloc|apply pw_below_drewN|apply below_drew1)|exact HB.out)⟩
           ·rw [if_neg c14] at H
            have c14b0 : ((rd y203 x13_1) == 0) = false := beq_eq_false_iff_ne.mpr c14
            have c14b1 : ((rd y203 x13_1) != 0) = true := bne_iff_ne.mpr c14
            by_cases c15 : x13_1 = 9
            ·rw [if_pos c15] at H
             have c15b0 : (x13_1 == 9) = true := beq_iff_eq.mpr c15
             have c15b1 : (x13_1 != 9) = false := bne_eq_false_iff_eq.mpr c15
             clear c15
             by_cases c16 : (rd y203 x13_1) > 1
             ·rw [if_pos c16] at H
              have c16b0 : decide (1 < (rd y203 x13_1)) = true := decide_eq_true c16
              clear c16
              simp only [Option.some.injEq, Prod.mk.injEq] at H
              obtain ⟨rfl, rfl⟩ := H
              have p207 : 0 ≤ (x13_1 : Int) := of_decide_eq_true (by first|(with_reducible assumption) | assumption)
              have q207 : x13_1 < (y203.length : Int):=of_decide_eq_true (by first|(with_reducible assumption) | assumption)
              obtain ⟨ad207, e207, hx207_0⟩ := Kd.at_int HR206.out x13_1 p207 q207
              cases e207
              replace hx207_0 := (HB.out.cell (World.block_lt_of_cell? w _ hx207_0)).trans hx207_0
              replace p207 := eq_true p207
              replace q207 := eq_true q207
              go_wp2
              go_ret2
              exact ⟨by first | rfl|(simp [errW_none,errW_some] <;> rfl)|(simp only [← hji2,← hji9,← hji11];first | rfl|(simp [errW_none,errW_some] <;> rfl))|(simp [*,errW_none,errW_some] <;> rfl),by repeat (first|(with_reducible first|exact HB.out|apply below_alloc|apply pw_below_drewN|apply below_drew1)|exact HB.out)⟩
             ·rw [if_neg c16] at H
              have c16b0 : decide (1 < (rd y203 x13_1)) = false := decide_eq_false c16
              clear c16
              simp only [Option.some.injEq, Prod.mk.injEq] at H
              obtain ⟨rfl, rfl⟩ := H
              have p207 : 0 ≤ (x13_1 : Int) := of_decide_eq_true (by first|(with_reducible assumption) | assumption)
              have q207 : x13_1 < (y203.length : Int):=of_decide_eq_true (by first|(with_reducible assumption) | assumption)
              obtain ⟨ad207, e207, hx207_0⟩ := Kd.at_int HR206.out x13_1 p207 q207
              cases e207
              replace hx207_0 := (HB.out.cell (World.block_lt_of_cell? w _ hx207_0)).trans hx207_0
              replace p207 := eq_true p207
              replace q207 := eq_true q207
              go_wp2
              go_ret2
              exact ⟨by first | rfl|(simp [errW_none,errW_some] <;> rfl)|(simp only [← hji2,← hji9,← hji11];first | rfl|(simp [errW_none,errW_some] <;> rfl))|(simp [*,errW_none,errW_some] <;> rfl),by repeat (first|(with_reducible first|exact HB.out|apply below_alloc|apply pw_below_drewN|apply below_drew1)|exact HB.out)⟩
            ·rw [if_neg c15] at H
             have c15b0 : (x13_1 == 9) = false := beq_eq_false_iff_ne.mpr c15
             have c15b1 : (x13_1 != 9) = true := bne_iff_ne.mpr c15
             simp only [Option.some.injEq, Prod.mk.injEq] at H
             obtain ⟨rfl, rfl⟩ := H
             have p207 : 0 ≤ (x13_1 : Int) := of_decide_eq_true (by first|(with_reducible assumption) | assumption)
             have q207 : x13_1 < (y203.length : Int):=of_decide_eq_true (by first|(with_reducible assumption) | assumption)
             obtain ⟨ad207, e207, hx207_0⟩ := Kd.at_int HR206.out x13_1 p207 q207
             cases e207
             replace hx207_0 := (HB.out.cell (World.block_lt_of_cell? w _ hx207_0)).trans hx207_0
             replace p207 := eq_true p207
             replace q207 := eq_true q207
             go_wp2
             go_ret2
             exact ⟨by first | rfl|(simp [errW_none,errW_some] <;> rfl)|(simp only [← hji2,← hji9,← hji11];first | rfl|(simp [errW_none,errW_some] <;> rfl))|(simp [*,errW_none,errW_some] <;> rfl),by repeat (first|(with_reducible first|exact HB.out|apply below_alloc|apply pw_below_drewN|apply below_drew1)|exact HB.out)⟩
          ·rw [if_neg c13] at H
           have c13b0 : decide (0 < x13_1) = false := decide_eq_false c13
           clear c13
           by_cases c17 : x13_1 = 9
           ·rw [if_pos c17] at H
            have c17b0 : (x13_1 == 9) = true := beq_iff_eq.mpr c17
            have c17b1 : (x13_1 != 9) = false := bne_eq_false_iff_eq.mpr c17
            clear c17
            by_cases c18 : (rd y203 x13_1) > 1
            ·rw [if_pos c18] at H
             have c18b0 : decide (1 < (rd y203 x13_1)) = true := decide_eq_true c18
             clear c18
             simp only [Option.some.injEq, Prod.mk.injEq] at H
             obtain ⟨rfl, rfl⟩ := H
             have p207 : 0 ≤ (x13_1 : Int) := of_decide_eq_true (by first|(with_reducible assumption) | assumption)
             have q207 : x13_1 < (y203.length : Int):=of_decide_eq_true (by first|(with_reducible assumption) | assumption)
             obtain ⟨ad207, e207, hx207_0⟩ := Kd.at_int HR206.out x13_1 p207 q207
             cases e207
             replace hx207_0 := (HB.out.cell (World.block_lt_of_cell? w _ hx207_0)).trans hx207_0
             replace p207 := eq_true p207
             replace q207 := eq_true q207
             go_wp2
             go_ret2
             exact ⟨by first | rfl|(simp [errW_none,errW_some] <;> rfl)|(simp only [← hji2,← hji9,← hji11];first | rfl|(simp [errW_none,errW_some] <;> rfl))|(simp [*,errW_none,errW_some] <;> rfl),by repeat (first|(with_reducible first|exact HB.out|apply below_alloc|apply pw_below_drewN|apply below_drew1)|exact HB.out)⟩
            ·rw [if_neg c18] at H
             have c18b0 : decide (1 < (rd y203 x13_1)) = false := decide_eq_false c18
             clear c18
             simp only [Option.some.injEq, Prod.mk.injEq] at H
             obtain ⟨rfl, rfl⟩ := H
             have p207 : 0 ≤ (x13_1 : Int) := of_decide_eq_true (by first|(with_reducible assumption) | assumption)
             have q207 : x13_1 < (y203.length : Int):=of_decide_eq_true (by first|(with_reducible assumption) | assumption)
             obtain ⟨ad207, e207, hx207_0⟩ := Kd.at_int HR206.out x13_1 p207 q207
             cases e207
             replace hx207_0 := (HB.out.cell (World.block_lt_of_cell? w _ hx207_0)).trans hx207_0
             replace p207 := eq_true p207
             replace q207 := eq_true q207
             go_wp2
             go_ret2
             exact ⟨by first | rfl|(simp [errW_none,errW_some] <;> rfl)|(simp only [← hji2,← hji9,← hji11];first | rfl|(simp [errW_none,errW_some] <;> rfl))|(simp [*,errW_none,errW_some] <;> rfl),by repeat (first|(with_reducible first|exact HB.out|apply below_alloc|apply pw_below_drewN|apply below_drew1)|exact HB.out)⟩
           ·rw [if_neg c17] at H
            have c17b0 : (x13_1 == 9) = false := beq_eq_false_iff_ne.mpr c17
            have c17b1 : (x13_1 != 9) = true := bne_iff_ne.mpr c17
            simp only [Option.some.injEq, Prod.mk.injEq] at H
            obtain ⟨rfl, rfl⟩ := H
            have p207 : 0 ≤ (x13_1 : Int) := of_decide_eq_true (by first|(with_reducible assumption) | assumption)
            have q207 : x13_1 < (y203.length : Int):=of_decide_eq_true (by first|(with_reducible assumption) | assumption)
            obtain ⟨ad207, e207, hx207_0⟩ := Kd.at_int HR206.out x13_1 p207 q207
            cases e207
            replace hx207_0 := (HB.out.cell (World.block_lt_of_cell? w _ hx207_0)).trans hx207_0
            replace p207 := eq_true p207
            replace q207 := eq_true q207
            go_wp2
            go_ret2
            exact ⟨by first | rfl|(simp [errW_none,errW_some] <;> rfl)|(simp only [← hji2,← hji9,← hji11];first | rfl|(simp [errW_none,errW_some] <;> rfl))|(simp [*,errW_none,errW_some] <;> rfl),by repeat (first|(with_reducible first|exact HB.out|apply below_alloc|apply pw_below_drewN|apply below_drew1)|exact HB.out)⟩
        ·rw [if_neg c10] at H
         exact absurd H (by simp)
       ·rw [if_neg c8] at H
        exact absurd H (by simp)
      ·rw [if_neg c7] at H
       exact absurd H (by simp)
     ·rw [if_neg c6] at H
      have c6b0 : decide (x13_1 < (y203.length : Int)) = false := decide_eq_false c6
      clear c6
      simp only [Option.some.injEq, Prod.mk.injEq] at H
      obtain ⟨rfl, rfl⟩ := H
      go_wp2
      go_ret2
      exact ⟨by first | rfl|(simp [errW_none,errW_some] <;> rfl)|(simp only [← hji2];first | rfl|(simp [errW_none,errW_some] <;> rfl))|(simp [*,errW_none,errW_some] <;> rfl),by repeat (first|(with_reducible first|exact HB.out|apply below_alloc|apply pw_below_drewN|apply below_drew1)|exact HB.out)⟩
  ·rw [if_neg c4] at H
   exact absurd H (by simp)
 ·rw [if_neg c3] at H
  exact absurd H (by simp)

-- NOT PRINTED: function 77 (varint_Reader_step)

-- NOT PRINTED: function 56 (varint_Reader_Num)

-- NOT PRINTED: function 69 (bytes_Clone)

-- NOT PRINTED: function 43 (block_Builder_Bytes)

-- NOT PRINTED: function 85 (block_read)

/-! ### bytes_Equal: function 86 -/
def bytes_Equal.f (l0 : List Int) (l1 : List Int) : Option (Bool):=some ((strOfNums l0).toList == (strOfNums l1).toList)
set_option maxHeartbeats 80000000 in
set_option maxRecDepth 100000 in
theorem bytes_Equal.calls (A0 : Option Addr) (c0 : Nat) (l0 : List Int) (A1 : Option Addr) (c1 : Nat) (l1 : List Int) (r : Bool) (w : World) (hr0 : Kd.C (Kd.int .u8) w A0 l0.length l0) (hc0 : l0.length ≤ c0) (hr1 : Kd.C (Kd.int .u8) w A1 l1.length l1) (hc1 : l1.length ≤ c1) (h : bytes_Equal.f l0 l1 = some r) :
  Calls Try.prog 86 #[.slice A0 l0.length c0,.slice A1 l1.length c1] w fun e w'=>e = .returned (.bool r)∧Drawn0 w w':=by
 have HR0 := Aside0.mk hr0
 have HC0 := Aside0.mk hc0
 clear hr0 hc0
 have HR1 := Aside0.mk hr1
 have HC1 := Aside0.mk hc1
 clear hr1 hc1
 have H : (some ((strOfNums l0).toList == (strOfNums l1).toList)) = some r := h
 clear h
 obtain rfl := Option.some.inj H
 simp only [Option.some.injEq, Prod.mk.injEq] at H
 obtain ⟨rfl⟩ := H
 have hcv3:=fun n_=>Kd.C_string (P:=Try.prog) (A:=A0) (c:=c0) Try.underlying43 Try.underlying5 Try.underlying9 (Kd.C_drewN HR0.out n_)
 have hcv4 := Kd.C_string (P := Try.prog) (A := A0) (c := c0) Try.underlying43 Try.underlying5 Try.underlying9 HR0.out
 have hcv5:=fun n_=>Kd.C_string (P:=Try.prog) (A:=A1) (c:=c1) Try.underlying43 Try.underlying5 Try.underlying9 (Kd.C_drewN HR1.out n_)
 have hcv6 := Kd.C_string (P := Try.prog) (A := A1) (c := c1) Try.underlying43 Try.underlying5 Try.underlying9 HR1.out
 go_enter Try.func86, Try.ntmps86
 go_wp2
 go_ret
 exact ⟨by first | rfl|(simp; done)|(simp [*]; done), by repeat (first|exact Drawn0.refl _|apply Drawn0.step)⟩

-- NOT PRINTED: function 78 (block_Read)

end Go.Proofs.Ytenmljkddhonmaa.MTbl

-- Written by a program of this session for this claim (out of the translation's print); Lean checks it.
namespace Go.Proofs.Ytenmljkddhonmaa.MTbl
open Go.RowKit Go.Proofs.YtenmljkddhonmaaW.PrintWords Go.Proofs.YtenmljkddhonmaaW.PrintLast Go.Proofs.YtenmljkddhonmaaW.PrintMore
attribute [local go_sem] max2_int min2_int max_two min_two max_three min_three max_four min_four   -- for this text's walks alone
set_option linter.unusedVariables false
set_option linter.unusedSimpArgs false

/-! ### varint_GetText: function 80 -/
def varint_GetText.f (k : Nat) (l0 : List Int) : Option (ByteArray × Int):=(varint_Get.f k l0).bind fun bt227=>(if bt227.2 = 0 then (some ((⟨#[]⟩ : ByteArray),0)) else (if bt227.1 > (IntKind.u64.wrap (wrap64 ((l0.length : Int) - bt227.2))) then (some ((⟨#[]⟩ : ByteArray),0)) else (if 0 ≤ bt227.2 then (if bt227.2 ≤ (wrap64 (bt227.2 + (wrap64 (bt227.1)))) then (if (wrap64 (bt227.2 + (wrap64 (bt227.1)))) ≤ (l0.length : Int) then (some (strOfNums ((l0.take ((wrap64 (bt227.2 + (wrap64 (bt227.1)))) : Int).toNat).drop (bt227.2 : Int).toNat),wrap64 (bt227.2 + (wrap64 (bt227.1))))) else (none)) else (none)) else (none))))
theorem varint_GetText.mono : ∀ a0 k, LeO (varint_GetText.f k a0) (varint_GetText.f (k + 1) a0) := by
 intro a0 k
 unfold varint_GetText.f
 repeat' first
  |(with_reducible exact varint_Get.mono _ _)
  |(with_reducible exact LeO.refl _)
  |(with_reducible exact LeO.none _)
  |(with_reducible refine LeO.ite ?_ ?_)
  |(with_reducible refine LeO.bind ?_ (fun _ => ?_))
  |exact varint_Get.mono _ _
  |exact LeO.none _
  |refine LeO.ite ?_ ?_
  |refine LeO.bind ?_ (fun _ => ?_)
set_option maxHeartbeats 80000000 in
set_option maxRecDepth 100000 in
theorem varint_GetText.calls (k : Nat) (A0 : Option Addr) (c0 : Nat) (l0 : List Int) (r1 : ByteArray) (r2 : Int) (w : World) (hr0 : Kd.C (Kd.int .u8) w A0 l0.length l0) (hc0 : l0.length ≤ c0) (h : varint_GetText.f k l0 = some (r1,r2)) :
  Calls Try.prog 80 #[.slice A0 l0.length c0] w fun e w'=>e = .returned (.tuple #[.string r1,.int .i64 r2])∧Below w.heap.size w w':=by
 have HR0 := Aside0.mk hr0
 have HC0 := Aside0.mk hc0
 clear hr0 hc0
 have HB := Aside0.mk (Below.refl w.heap.size w)
 have H : ((varint_Get.f k l0).bind fun bt227=>(if bt227.2 = 0 then (some ((⟨#[]⟩ : ByteArray),0)) else (if bt227.1 > (IntKind.u64.wrap (wrap64 ((l0.length : Int) - bt227.2))) then (some ((⟨#[]⟩ : ByteArray),0)) else (if 0 ≤ bt227.2 then (if bt227.2 ≤ (wrap64 (bt227.2 + (wrap64 (bt227.1)))) then (if (wrap64 (bt227.2 + (wrap64 (bt227.1)))) ≤ (l0.length : Int) then (some (strOfNums ((l0.take ((wrap64 (bt227.2 + (wrap64 (bt227.1)))) : Int).toNat).drop (bt227.2 : Int).toNat),wrap64 (bt227.2 + (wrap64 (bt227.1))))) else (none)) else (none)) else (none))))) = some (r1,r2):=h
 clear h
 replace H := Option.bind_eq_some_iff.mp H
 obtain ⟨⟨t227, t228⟩, A20, H⟩ := H
 replace H : (if t228 = 0 then (some ((⟨#[]⟩ : ByteArray),0)) else (if t227 > (IntKind.u64.wrap (wrap64 ((l0.length : Int) - t228))) then (some ((⟨#[]⟩ : ByteArray),0)) else (if 0 ≤ t228 then (if t228 ≤ (wrap64 (t228 + (wrap64 (t227)))) then (if (wrap64 (t228 + (wrap64 (t227)))) ≤ (l0.length : Int) then (some (strOfNums ((l0.take ((wrap64 (t228 + (wrap64 (t227)))) : Int).toNat).drop (t228 : Int).toNat),wrap64 (t228 + (wrap64 (t227))))) else (none)) else (none)) else (none)))) = some (r1,r2):=H
 have A2 := Aside0.mk A20
 clear A20
 by_cases c3 : t228 = 0
 ·rw [if_pos c3] at H
  have c3b0 : (t228 == 0) = true := beq_iff_eq.mpr c3
  have c3b1 : (t228 != 0) = false := bne_eq_false_iff_eq.mpr c3
  clear c3
  simp only [Option.some.injEq, Prod.mk.injEq] at H
  obtain ⟨rfl, rfl⟩ := H
  go_enter Try.func80, Try.ntmps80
  go_wp2_with (first|((with_reducible refine gate_callee (f:=76) rfl ?_);refine goesL_ (some 8) rfl rfl Try.func76 (by kernel_rfl) rfl #[.slice A0 l0.length c0] rfl (by (try simp only [List.map_toArray,List.map_cons,List.map_nil]);first | done | rfl|(simp only [List.length_drop,List.length_take];rfl)) ?_;(with_reducible refine (varint_Get.calls k _ _ l0 t227 t228 _ ?side1 ?side2 A2.out).mono ?_);(case side1=>repeat (first|exact HR0.out|(with_reducible refine Kd.C_alloc ?_ _)|(with_reducible refine Kd.C_drewN ?_ _)|(with_reducible refine Kd.C_drew ?_)));(case side2=>exact HC0.out);rintro e w4 ⟨rfl,hb⟩;refine ⟨_,rfl,?_⟩;have n0_:=Aside0.mk (below_step (by repeat (first|(with_reducible first|exact HB.out|apply below_alloc|apply pw_below_drewN|apply below_drew1)|exact HB.out)) hb);clear HB;have HB:=n0_;clear n0_;(try clear hb);(try clear hb2);(try clear hk);(try clear hi)))
  go_ret2
  exact ⟨by first | rfl|(simp [errW_none,errW_some] <;> rfl)|(simp [*,errW_none,errW_some] <;> rfl),by repeat (first|(with_reducible first|exact HB.out|apply below_alloc|apply pw_below_drewN|apply below_drew1)|exact HB.out)⟩
 ·rw [if_neg c3] at H
  have c3b0 : (t228 == 0) = false := beq_eq_false_iff_ne.mpr c3
  have c3b1 : (t228 != 0) = true := bne_iff_ne.mpr c3
  by_cases c5 : t227 > (IntKind.u64.wrap (wrap64 ((l0.length : Int) - t228)))
  ·rw [if_pos c5] at H
   have c5b0 : decide ((IntKind.u64.wrap (wrap64 ((l0.length : Int) - t228))) < t227) = true := decide_eq_true c5
   clear c5
   simp only [Option.some.injEq, Prod.mk.injEq] at H
   obtain ⟨rfl, rfl⟩ := H
   go_enter Try.func80, Try.ntmps80
   go_wp2_with (first|((with_reducible refine gate_callee (f:=76) rfl ?_);refine goesL_ (some 8) rfl rfl Try.func76 (by kernel_rfl) rfl #[.slice A0 l0.length c0] rfl (by (try simp only [List.map_toArray,List.map_cons,List.map_nil]);first | done | rfl|(simp only [List.length_drop,List.length_take];rfl)) ?_;(with_reducible refine (varint_Get.calls k _ _ l0 t227 t228 _ ?side1 ?side2 A2.out).mono ?_);(case side1=>repeat (first|exact HR0.out|(with_reducible refine Kd.C_alloc ?_ _)|(with_reducible refine Kd.C_drewN ?_ _)|(with_reducible refine Kd.C_drew ?_)));(case side2=>exact HC0.out);rintro e w6 ⟨rfl,hb⟩;refine ⟨_,rfl,?_⟩;have n0_:=Aside0.mk (below_step (by repeat (first|(with_reducible first|exact HB.out|apply below_alloc|apply pw_below_drewN|apply below_drew1)|exact HB.out)) hb);clear HB;have HB:=n0_;clear n0_;(try clear hb);(try clear hb2);(try clear hk);(try clear hi)))
   go_ret2
   exact ⟨by first | rfl|(simp [errW_none,errW_some] <;> rfl)|(simp [*,errW_none,errW_some] <;> rfl),by repeat (first|(with_reducible first|exact HB.out|apply below_alloc|apply pw_below_drewN|apply below_drew1)|exact HB.out)⟩
  ·rw [if_neg c5] at H
   have c5b0 : decide ((IntKind.u64.wrap (wrap64 ((l0.length : Int) - t228))) < t227) = false := decide_eq_false c5
   clear c5
   by_cases c7 : 0 ≤ t228
   ·rw [if_pos c7] at H
    have c7b0 := eq_true c7
    have c7b1 : decide (0 ≤ t228) = true := decide_eq_true c7
    clear c7
    by_cases c8 : t228 ≤ (wrap64 (t228 + (wrap64 (t227))))
    ·rw [if_pos c8] at H
     have c8b0 := eq_true c8
     have c8b1 : decide (t228 ≤ (wrap64 (t228 + (wrap64 (t227))))) = true := decide_eq_true c8
     by_cases c9 : (wrap64 (t228 + (wrap64 (t227)))) ≤ (l0.length : Int)
     ·rw [if_pos c9] at H
      have c9b0 := eq_true c9
      have c9b1 : decide ((wrap64 (t228 + (wrap64 (t227)))) ≤ (l0.length : Int)) = true := decide_eq_true c9
      obtain ⟨y229,hy229⟩ : ∃ y_ : List Int,y_ = ((l0.take ((wrap64 (t228 + (wrap64 (t227)))) : Int).toNat).drop (t228 : Int).toNat):=⟨_,rfl⟩
      replace H : (some (strOfNums y229,wrap64 (t228 + (wrap64 (t227))))) = some (r1,r2):=by first|(rw [hy229];with_reducible exact H)|(have H2_:=(Option.bind_some _ _).symm.trans H;rw [hy229];with_reducible exact H2_)|(have H2_:=(Option.bind_some _ _).symm.trans H;with_reducible exact H2_) | with_reducible exact H|(rw [hy229];exact H)|exact H
      have Ny229 := Aside0.mk hy229
      clear hy229
      simp only [Option.some.injEq, Prod.mk.injEq] at H
      obtain ⟨rfl, rfl⟩ := H
      go_enter Try.func80, Try.ntmps80
      go_wp2_with (first|((with_reducible refine gate_callee (f:=76) rfl ?_);refine goesL_ (some 8) rfl rfl Try.func76 (by kernel_rfl) rfl #[.slice A0 l0.length c0] rfl (by (try simp only [List.map_toArray,List.map_cons,List.map_nil]);first | done | rfl|(simp only [List.length_drop,List.length_take];rfl)) ?_;(with_reducible refine (varint_Get.calls k _ _ l0 t227 t228 _ ?side1 ?side2 A2.out).mono ?_);(case side1=>repeat (first|exact HR0.out|(with_reducible refine Kd.C_alloc ?_ _)|(with_reducible refine Kd.C_drewN ?_ _)|(with_reducible refine Kd.C_drew ?_)));(case side2=>exact HC0.out);rintro e w10 ⟨rfl,hb⟩;refine ⟨_,rfl,?_⟩;have n0_:=Aside0.mk (below_step (by repeat (first|(with_reducible first|exact HB.out|apply below_alloc|apply pw_below_drewN|apply below_drew1)|exact HB.out)) hb);clear HB;have HB:=n0_;clear n0_;(try clear hb);(try clear hb2);(try clear hk);(try clear hi);have q11 : ((wrap64 (t228 + (wrap64 (t227)))) : Int) ≤ ((l0.length : Int) : Int):=of_decide_eq_true (by first|(with_reducible assumption) | assumption);obtain ⟨i011,hi011,_,hsz11,_⟩:=info_parts info5;have hroom11 : l0.length ≤ c0:=HC0.out;have hC11 : Kd.C (Kd.int .u8) _ A0 l0.length l0:=HR0.out;have ql11 : (t228 : Int) ≤ ((wrap64 (t228 + (wrap64 (t227)))) : Int):=of_decide_eq_true (by first|(with_reducible assumption) | assumption);have q011 : (0 : Int) ≤ (t228 : Int):=of_decide_eq_true (by first|(with_reducible assumption) | assumption);have hcut11:=cut_mid (P:=Try.prog) 43 5 .i64 .i64 Try.underlying43 hi011 1 hsz11 A0 l0.length c0 t228 (wrap64 (t228 + (wrap64 (t227)))) q011 ql11 q11 hroom11;have hr11:=Kd.C_mid (lo:=(t228 : Int).toNat) (hi:=((wrap64 (t228 + (wrap64 (t227)))) : Int).toNat) (c:=c0) hC11 (by omega) (by omega) hroom11;obtain ⟨A11,hA11⟩ : ∃ A1,A1 = (if c0 = (t228 : Int).toNat then A0 else (A0 : Option Addr).map (·.add ((t228 : Int).toNat * 1))):=⟨_,rfl⟩;obtain ⟨c11,hc11⟩ : ∃ c1,c1 = c0 - (t228 : Int).toNat:=⟨_,rfl⟩;have hy11 : y229.length = ((wrap64 (t228 + (wrap64 (t227)))) : Int).toNat - (t228 : Int).toNat:=(by rw [Ny229.out,List.length_drop,List.length_take] <;> omega);rw [show ((l0).take ((wrap64 (t228 + (wrap64 (t227)))) : Int).toNat).drop (t228 : Int).toNat = y229 from Ny229.out.symm] at hr11;replace hr11 : Kd.C (Kd.int .u8) _ A11 y229.length y229:=(by rw [hA11];exact hr11);rw [← hy11,← hA11,← hc11] at hcut11;have HR232:=Aside0.mk hr11;have HC232:=Aside0.mk (show y229.length ≤ c11 from by rw [hy11,hc11];exact Nat.sub_le_sub_right (Nat.le_trans (by omega) hroom11) _);clear hr11 hC11 hroom11 hi011 hsz11 hc11;have KY11:=Aside0.mk hy11;have KA11:=Aside0.mk hA11;clear hy11 hA11;replace q11:=eq_true q11;(try have hcv12:=fun n_=>Kd.C_string (P:=Try.prog) (A:=A11) (c:=c11) Try.underlying43 Try.underlying5 Try.underlying9 (Kd.C_drewN (Kd.C_below HR232.out HB.out) n_));have hcv13:=Kd.C_string (P:=Try.prog) (A:=A11) (c:=c11) Try.underlying43 Try.underlying5 Try.underlying9 (Kd.C_below HR232.out HB.out)))
      go_ret2
      exact ⟨by first | rfl|(simp [errW_none,errW_some] <;> rfl)|(simp [*,errW_none,errW_some] <;> rfl),by repeat (first|(with_reducible first|exact HB.out|apply below_alloc|apply pw_below_drewN|apply below_drew1)|exact HB.out)⟩
     ·rw [if_neg c9] at H
      exact absurd H (by simp)
    ·rw [if_neg c8] at H
     exact absurd H (by simp)
   ·rw [if_neg c7] at H
    exact absurd H (by simp)

-- NOT PRINTED: function 57 (table_entries)

-- NOT PRINTED: function 58 (slices_Clone_byte_byte)

-- NOT PRINTED: function 23 (table_Open)

end Go.Proofs.Ytenmljkddhonmaa.MTbl
