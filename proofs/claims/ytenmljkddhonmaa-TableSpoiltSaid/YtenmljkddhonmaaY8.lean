import Derived.Test.YtenmljkddhonmaaY1
import Derived.Test.YtenmljkddhonmaaY2
import Derived.Test.YtenmljkddhonmaaY7
import Derived.Test.YtenmljkddhonmaaY3
import Derived.Test.YtenmljkddhonmaaY4
import Derived.Test.YtenmljkddhonmaaY5
import Derived.Test.YtenmljkddhonmaaY6
import Derived.Laws.EntriesVeiled
import Derived.Outline
import Derived.Deep.QuietTactic
import Derived.BigQuiet
import Derived.Deep.LoopGhost
import Derived.BigRegion
import Derived.Deep.RegionLaw
-- Written by a program of this session for this claim (out of the translation's print); Lean checks it.
namespace Go.Proofs.Ytenmljkddhonmaa.MTbl
open Go.RowKit Go.Proofs.YtenmljkddhonmaaW.PrintWords Go.Proofs.YtenmljkddhonmaaW.PrintLast Go.Proofs.YtenmljkddhonmaaW.PrintMore
attribute [local go_sem] max2_int min2_int max_two min_two max_three min_three max_four min_four   -- for this text's walks alone
set_option linter.unusedVariables false
set_option linter.unusedSimpArgs false

/-! ### incipitlaw7_Sort: function 29 -/
mutual
def incipitlaw7_Sort.l0 : Nat → List (S28) → Int → List (S28) → Int → Option ((List (S28)))
 | 0, _, _, _, _ => none
 | k + 1,x0,x1,x5,x6=>if x6 < (x0.length : Int) then (incipitlaw7_Sort.j1 k x0 x1 x5 x6 (decide (x6 < x1))) else (incipitlaw7_Sort.j1 k x0 x1 x5 x6 false)
def incipitlaw7_Sort.j1 : Nat → List (S28) → Int → List (S28) → Int → Bool → Option ((List (S28)))
 | 0, _, _, _, _, _ => none
 | k + 1,x0,x1,x5,x6,x18=>if x18 = true then (if 0 ≤ x6 then (if x6 < (x0.length : Int) then ((incipitlaw7_Cut.f ((rd_T28 x0 x6).f0) ((rd_T28 x0 x6).f1) ((rd_T28 x0 x6).f2) ((rd_T28 x0 x6).f3) ((rd_T28 x0 x6).f4)).bind fun bt288=>(if bt288.2.1 < 1 then (incipitlaw7_Sort.j2 k x0 x1 x5 x6 true bt288.1 bt288.2.1 bt288.2.2.1 bt288.2.2.2.1 bt288.2.2.2.2) else (if bt288.2.1 > 1125899906842624 then (incipitlaw7_Sort.j2 k x0 x1 x5 x6 true bt288.1 bt288.2.1 bt288.2.2.1 bt288.2.2.2.1 bt288.2.2.2.2) else (if bt288.2.2.1 = 1 then (incipitlaw7_Sort.j2 k x0 x1 x5 x6 false bt288.1 bt288.2.1 bt288.2.2.1 bt288.2.2.2.1 bt288.2.2.2.2) else (incipitlaw7_Sort.j2 k x0 x1 x5 x6 (bt288.2.2.1 != 0) bt288.1 bt288.2.1 bt288.2.2.1 bt288.2.2.2.1 bt288.2.2.2.2))))) else (none)) else (none)) else (some x5)
def incipitlaw7_Sort.j2 : Nat → List (S28) → Int → List (S28) → Int → Bool → ByteArray → Int → Int → ByteArray → ByteArray → Option ((List (S28)))
 | 0, _, _, _, _, _, _, _, _, _, _ => none
 | k + 1,x0,x1,x5,x6,x43,x294000,x294001,x294002,x294003,x294004=>if x43 = true then (incipitlaw7_Sort.l0 k x0 x1 x5 (wrap64 (x6 + 1))) else (if x294002 = 0 then (incipitlaw7_Sort.j3 k x0 x1 x5 x6 x294000 x294001 x294002 x294003 (⟨#[]⟩ : ByteArray)) else (incipitlaw7_Sort.j3 k x0 x1 x5 x6 x294000 x294001 x294002 x294003 x294004))
def incipitlaw7_Sort.j3 : Nat → List (S28) → Int → List (S28) → Int → ByteArray → Int → Int → ByteArray → ByteArray → Option ((List (S28)))
 | 0, _, _, _, _, _, _, _, _, _ => none
 | k + 1,x0,x1,x5,x6,x294000,x294001,x294002,x294003,x294004=>incipitlaw7_Sort.l1 k x0 x1 x5 x6 false 0 x294000 x294001 x294002 x294003 x294004
def incipitlaw7_Sort.l1 : Nat → List (S28) → Int → List (S28) → Int → Bool → Int → ByteArray → Int → Int → ByteArray → ByteArray → Option ((List (S28)))
 | 0, _, _, _, _, _, _, _, _, _, _, _ => none
 | k + 1,x0,x1,x5,x6,x8,x9,x294000,x294001,x294002,x294003,x294004=>if x9 < (x5.length : Int) then (if x8 = true then (incipitlaw7_Sort.l1 k x0 x1 x5 x6 true (wrap64 (x9 + 1)) x294000 x294001 x294002 x294003 x294004) else (if 0 ≤ x9 then (if ((rd_T28 x5 x9).f0).toList = x294000.toList then (incipitlaw7_Sort.l1 k x0 x1 x5 x6 (((rd_T28 x5 x9).f1) == x294001) (wrap64 (x9 + 1)) x294000 x294001 x294002 x294003 x294004) else (incipitlaw7_Sort.l1 k x0 x1 x5 x6 false (wrap64 (x9 + 1)) x294000 x294001 x294002 x294003 x294004)) else (none))) else (if x8 = true then (incipitlaw7_Sort.l0 k x0 x1 x5 (wrap64 (x6 + 1))) else ((incipitref12_Into.f k x5 x294000 x294001 x294002 x294003 x294004).bind fun t296=>(incipitlaw7_Sort.l0 k x0 x1 t296 (wrap64 (x6 + 1)))))
end
def incipitlaw7_Sort.f (k : Nat) (l0 : List (S28)) (a1 : Int) : Option ((List (S28))):=incipitlaw7_Sort.l0 k l0 a1 ([] : List (S28)) 0
theorem incipitlaw7_Sort.mono_l : ∀ k,(∀ y0 y1 y2 y3,LeO (incipitlaw7_Sort.l0 k y0 y1 y2 y3) (incipitlaw7_Sort.l0 (k + 1) y0 y1 y2 y3))∧(∀ y0 y1 y2 y3 y4,LeO (incipitlaw7_Sort.j1 k y0 y1 y2 y3 y4) (incipitlaw7_Sort.j1 (k + 1) y0 y1 y2 y3 y4))∧(∀ y0 y1 y2 y3 y4 y5 y6 y7 y8 y9,LeO (incipitlaw7_Sort.j2 k y0 y1 y2 y3 y4 y5 y6 y7 y8 y9) (incipitlaw7_Sort.j2 (k + 1) y0 y1 y2 y3 y4 y5 y6 y7 y8 y9))∧(∀ y0 y1 y2 y3 y4 y5 y6 y7 y8,LeO (incipitlaw7_Sort.j3 k y0 y1 y2 y3 y4 y5 y6 y7 y8) (incipitlaw7_Sort.j3 (k + 1) y0 y1 y2 y3 y4 y5 y6 y7 y8))∧(∀ y0 y1 y2 y3 y4 y5 y6 y7 y8 y9 y10,LeO (incipitlaw7_Sort.l1 k y0 y1 y2 y3 y4 y5 y6 y7 y8 y9 y10) (incipitlaw7_Sort.l1 (k + 1) y0 y1 y2 y3 y4 y5 y6 y7 y8 y9 y10))
 | 0=>⟨fun _ _ _ _ r h=>by simp [incipitlaw7_Sort.l0] at h,fun _ _ _ _ _ r h=>by simp [incipitlaw7_Sort.j1] at h,fun _ _ _ _ _ _ _ _ _ _ r h=>by simp [incipitlaw7_Sort.j2] at h,fun _ _ _ _ _ _ _ _ _ r h=>by simp [incipitlaw7_Sort.j3] at h,fun _ _ _ _ _ _ _ _ _ _ _ r h=>by simp [incipitlaw7_Sort.l1] at h⟩
 | k + 1 => by
  obtain ⟨ih0, ih1, ih2, ih3, ih4⟩ := incipitlaw7_Sort.mono_l k
  refine ⟨?_, ?_, ?_, ?_, ?_⟩
  ·intro y0 y1 y2 y3
   unfold incipitlaw7_Sort.l0
   repeat' first
  |(with_reducible exact ih0 _ _ _ _)
  |(with_reducible exact ih1 _ _ _ _ _)
  |(with_reducible exact ih2 _ _ _ _ _ _ _ _ _ _)
  |(with_reducible exact ih3 _ _ _ _ _ _ _ _ _)
  |(with_reducible exact ih4 _ _ _ _ _ _ _ _ _ _ _)
  |(with_reducible exact incipitref12_Into.mono _ _ _ _ _ _ _)
  |(with_reducible exact LeO.refl _)
  |(with_reducible exact LeO.none _)
  |(with_reducible refine LeO.ite ?_ ?_)
  |(with_reducible refine LeO.bind ?_ (fun _ => ?_))
  |exact ih0 _ _ _ _
  |exact ih1 _ _ _ _ _
  |exact ih2 _ _ _ _ _ _ _ _ _ _
  |exact ih3 _ _ _ _ _ _ _ _ _
  |exact ih4 _ _ _ _ _ _ _ _ _ _ _
  |exact incipitref12_Into.mono _ _ _ _ _ _ _
  |exact LeO.none _
  |refine LeO.ite ?_ ?_
  |refine LeO.bind ?_ (fun _ => ?_)
  ·intro y0 y1 y2 y3 y4
   unfold incipitlaw7_Sort.j1
   repeat' first
  |(with_reducible exact ih0 _ _ _ _)
  |(with_reducible exact ih1 _ _ _ _ _)
  |(with_reducible exact ih2 _ _ _ _ _ _ _ _ _ _)
  |(with_reducible exact ih3 _ _ _ _ _ _ _ _ _)
  |(with_reducible exact ih4 _ _ _ _ _ _ _ _ _ _ _)
  |(with_reducible exact incipitref12_Into.mono _ _ _ _ _ _ _)
  |(with_reducible exact LeO.refl _)
  |(with_reducible exact LeO.none _)
  |(with_reducible refine LeO.ite ?_ ?_)
  |(with_reducible refine LeO.bind ?_ (fun _ => ?_))
  |exact ih0 _ _ _ _
  |exact ih1 _ _ _ _ _
  |exact ih2 _ _ _ _ _ _ _ _ _ _
  |exact ih3 _ _ _ _ _ _ _ _ _
  |exact ih4 _ _ _ _ _ _ _ _ _ _ _
  |exact incipitref12_Into.mono _ _ _ _ _ _ _
  |exact LeO.none _
  |refine LeO.ite ?_ ?_
  |refine LeO.bind ?_ (fun _ => ?_)
  ·intro y0 y1 y2 y3 y4 y5 y6 y7 y8 y9
   unfold incipitlaw7_Sort.j2
   repeat' first
  |(with_reducible exact ih0 _ _ _ _)
  |(with_reducible exact ih1 _ _ _ _ _)
  |(with_reducible exact ih2 _ _ _ _ _ _ _ _ _ _)
  |(with_reducible exact ih3 _ _ _ _ _ _ _ _ _)
  |(with_reducible exact ih4 _ _ _ _ _ _ _ _ _ _ _)
  |(with_reducible exact incipitref12_Into.mono _ _ _ _ _ _ _)
  |(with_reducible exact LeO.refl _)
  |(with_reducible exact LeO.none _)
  |(with_reducible refine LeO.ite ?_ ?_)
  |(with_reducible refine LeO.bind ?_ (fun _ => ?_))
  |exact ih0 _ _ _ _
  |exact ih1 _ _ _ _ _
  |exact ih2 _ _ _ _ _ _ _ _ _ _
  |exact ih3 _ _ _ _ _ _ _ _ _
  |exact ih4 _ _ _ _ _ _ _ _ _ _ _
  |exact incipitref12_Into.mono _ _ _ _ _ _ _
  |exact LeO.none _
  |refine LeO.ite ?_ ?_
  |refine LeO.bind ?_ (fun _ => ?_)
  ·intro y0 y1 y2 y3 y4 y5 y6 y7 y8
   unfold incipitlaw7_Sort.j3
   repeat' first
  |(with_reducible exact ih0 _ _ _ _)
  |(with_reducible exact ih1 _ _ _ _ _)
  |(with_reducible exact ih2 _ _ _ _ _ _ _ _ _ _)
  |(with_reducible exact ih3 _ _ _ _ _ _ _ _ _)
  |(with_reducible exact ih4 _ _ _ _ _ _ _ _ _ _ _)
  |(with_reducible exact incipitref12_Into.mono _ _ _ _ _ _ _)
  |(with_reducible exact LeO.refl _)
  |(with_reducible exact LeO.none _)
  |(with_reducible refine LeO.ite ?_ ?_)
  |(with_reducible refine LeO.bind ?_ (fun _ => ?_))
  |exact ih0 _ _ _ _
  |exact ih1 _ _ _ _ _
  |exact ih2 _ _ _ _ _ _ _ _ _ _
  |exact ih3 _ _ _ _ _ _ _ _ _
  |exact ih4 _ _ _ _ _ _ _ _ _ _ _
  |exact incipitref12_Into.mono _ _ _ _ _ _ _
  |exact LeO.none _
  |refine LeO.ite ?_ ?_
  |refine LeO.bind ?_ (fun _ => ?_)
  ·intro y0 y1 y2 y3 y4 y5 y6 y7 y8 y9 y10
   unfold incipitlaw7_Sort.l1
   repeat' first
  |(with_reducible exact ih0 _ _ _ _)
  |(with_reducible exact ih1 _ _ _ _ _)
  |(with_reducible exact ih2 _ _ _ _ _ _ _ _ _ _)
  |(with_reducible exact ih3 _ _ _ _ _ _ _ _ _)
  |(with_reducible exact ih4 _ _ _ _ _ _ _ _ _ _ _)
  |(with_reducible exact incipitref12_Into.mono _ _ _ _ _ _ _)
  |(with_reducible exact LeO.refl _)
  |(with_reducible exact LeO.none _)
  |(with_reducible refine LeO.ite ?_ ?_)
  |(with_reducible refine LeO.bind ?_ (fun _ => ?_))
  |exact ih0 _ _ _ _
  |exact ih1 _ _ _ _ _
  |exact ih2 _ _ _ _ _ _ _ _ _ _
  |exact ih3 _ _ _ _ _ _ _ _ _
  |exact ih4 _ _ _ _ _ _ _ _ _ _ _
  |exact incipitref12_Into.mono _ _ _ _ _ _ _
  |exact LeO.none _
  |refine LeO.ite ?_ ?_
  |refine LeO.bind ?_ (fun _ => ?_)
theorem incipitlaw7_Sort.mono : ∀ a0 a1 k, LeO (incipitlaw7_Sort.f k a0 a1) (incipitlaw7_Sort.f (k + 1) a0 a1) := by
 intro a0 a1 k
 obtain ⟨ih0, ih1, ih2, ih3, ih4⟩ := incipitlaw7_Sort.mono_l k
 unfold incipitlaw7_Sort.f
 repeat' first
  |(with_reducible exact ih0 _ _ _ _)
  |(with_reducible exact ih1 _ _ _ _ _)
  |(with_reducible exact ih2 _ _ _ _ _ _ _ _ _ _)
  |(with_reducible exact ih3 _ _ _ _ _ _ _ _ _)
  |(with_reducible exact ih4 _ _ _ _ _ _ _ _ _ _ _)
  |(with_reducible exact incipitref12_Into.mono _ _ _ _ _ _ _)
  |(with_reducible exact LeO.refl _)
  |(with_reducible exact LeO.none _)
  |(with_reducible refine LeO.ite ?_ ?_)
  |(with_reducible refine LeO.bind ?_ (fun _ => ?_))
  |exact ih0 _ _ _ _
  |exact ih1 _ _ _ _ _
  |exact ih2 _ _ _ _ _ _ _ _ _ _
  |exact ih3 _ _ _ _ _ _ _ _ _
  |exact ih4 _ _ _ _ _ _ _ _ _ _ _
  |exact incipitref12_Into.mono _ _ _ _ _ _ _
  |exact LeO.none _
  |refine LeO.ite ?_ ?_
  |refine LeO.bind ?_ (fun _ => ?_)
set_option maxHeartbeats 80000000 in
set_option maxRecDepth 100000 in
theorem incipitlaw7_Sort.calls (k : Nat) (A0 : Option Addr) (c0 : Nat) (l0 : List (S28)) (a1 : Int) (r : List (S28)) (w : World) (hr0 : Kd.C k28 w A0 l0.length l0) (hc0 : l0.length ≤ c0) (h : incipitlaw7_Sort.f k l0 a1 = some r) :
  Calls Try.prog 29 #[.slice A0 l0.length c0,.int .i64 a1] w fun e w'=>∃ v0_ : Value,e = .returned (v0_)∧Kd.R k28 28 w' w.heap.size (fun _=>True) v0_ r∧Below w.heap.size w w':=by
 have hu28 := Try.underlying28
 have HR0 := Aside0.mk hr0
 have HC0 := Aside0.mk hc0
 clear hr0 hc0
 have HB := Aside0.mk (Below.refl w.heap.size w)
 have H : (incipitlaw7_Sort.l0 k l0 a1 ([] : List (S28)) 0) = some r := h
 clear h
 have H' := Aside0.mk H
 clear H
 go_enter Try.func29, Try.ntmps29
 go_wp2
 repeat (go_quiet (fail); try go_wp2)
 go_loopg [5,6] k (fun kq v5 v6 w'=>∃ (x5_1 : List (S28)) (x6_1 : Int),v6 = .int .i64 x6_1∧Aside0 (incipitlaw7_Sort.l0 kq l0 a1 x5_1 x6_1 = some r)∧Aside0 (kq ≤ k)∧Aside0 (Kd.R k28 28 w' w.heap.size (fun _=>True) v5 x5_1)∧Aside0 (Below w.heap.size w w'))
 case atStart=>exact ⟨(([] : List (S28))),(0),(by first | rfl|(simp;done)|(simp [*];done)),H',⟨Nat.le_refl _⟩,⟨by first|exact Kd.R_nil _ _ _ _ _|exact Kd.N_nil _ _ _ _ _|exact Kd.V_nil _ _ _ _ _|exact Kd.Q_nil _ _ _ _ _|exact Kd.S_nil _ _ _ _ _⟩,⟨by repeat (first|(with_reducible first|exact HB.out|apply below_alloc|apply pw_below_drewN|apply below_drew1)|exact HB.out)⟩⟩
 case round =>
  clear H'
  try clear c2
  try clear p2
  obtain ⟨x5_1, x6_1, rfl, HA, HK1, HO_5, HB⟩ := hrel
  cases gk with
  | zero => exact absurd HA.out (by simp [incipitlaw7_Sort.l0])
  | succ k1 =>
   have H := HA.out
   clear HA
   simp only [incipitlaw7_Sort.l0] at H
   have HC3 := Aside0.mk H
   clear H
   go_upto_region 3 with (fail)
   repeat (go_quiet (fail); go_upto_region 3 with (fail))
   go_cut [18] (fun v18 wc=>∃ (kq : Nat) (x18_2 : Bool),v18 = .bool x18_2∧Aside0 (incipitlaw7_Sort.j1 kq l0 a1 x5_1 x6_1 x18_2 = some r)∧Aside0 (kq ≤ k1)∧Aside0 (Kd.R k28 28 wc w.heap.size (fun _=>True) u5 x5_1)∧Aside0 (Below w.heap.size w wc))
   case first =>
    have H := HC3.out
    clear HC3
    by_cases c4 : x6_1 < (l0.length : Int)
    ·rw [if_pos c4] at H
     have c4b0 : decide (x6_1 < (l0.length : Int)) = true := decide_eq_true c4
     clear c4
     (first | rw [c4b0]|(simp only [i64_w, i32_w]; rw [c4b0]) | skip)
     have H' := Aside0.mk H
     clear H
     go_wp2
     repeat (go_quiet (fail); try go_wp2)
     go_meet
     case rel=>exact ⟨_,(decide (x6_1 < a1)),(by first | rfl|(simp;done)|(simp [*];done)),H',⟨by have:=HK1.out;first | omega|exact Nat.le_refl _⟩,⟨by (with_reducible repeat (first|apply Kd.R_alloc|apply Kd.R_drewN|apply Kd.R_drew));exact HO_5.out⟩,⟨by repeat (first|(with_reducible first|exact HB.out|apply below_alloc|apply pw_below_drewN|apply below_drew1)|exact HB.out)⟩⟩
    ·rw [if_neg c4] at H
     have c4b0 : decide (x6_1 < (l0.length : Int)) = false := decide_eq_false c4
     clear c4
     (first | rw [c4b0]|(simp only [i64_w, i32_w]; rw [c4b0]) | skip)
     have H' := Aside0.mk H
     clear H
     go_wp2
     repeat (go_quiet (fail); try go_wp2)
     go_meet
     case rel=>exact ⟨_,(false),(by first | rfl|(simp;done)|(simp [*];done)),H',⟨by have:=HK1.out;first | omega|exact Nat.le_refl _⟩,⟨by (with_reducible repeat (first|apply Kd.R_alloc|apply Kd.R_drewN|apply Kd.R_drew));exact HO_5.out⟩,⟨by repeat (first|(with_reducible first|exact HB.out|apply below_alloc|apply pw_below_drewN|apply below_drew1)|exact HB.out)⟩⟩
   case rest =>
    clear HC3
    try clear c2
    try clear p2
    try clear c4
    try clear c4b0
    try clear p2
    obtain ⟨kq, x18_2, rfl, HA, HJ2, HO_5, HB⟩ := hcut
    cases kq with
    | zero => exact absurd HA.out (by simp [incipitlaw7_Sort.j1])
    | succ kj2 =>
     have H := HA.out
     clear HA
     simp only [incipitlaw7_Sort.j1] at H
     by_cases c5 : x18_2 = true
     ·subst c5
      have H1 : (if 0 ≤ x6_1 then (if x6_1 < (l0.length : Int) then ((incipitlaw7_Cut.f ((rd_T28 l0 x6_1).f0) ((rd_T28 l0 x6_1).f1) ((rd_T28 l0 x6_1).f2) ((rd_T28 l0 x6_1).f3) ((rd_T28 l0 x6_1).f4)).bind fun bt288=>(if bt288.2.1 < 1 then (incipitlaw7_Sort.j2 kj2 l0 a1 x5_1 x6_1 true bt288.1 bt288.2.1 bt288.2.2.1 bt288.2.2.2.1 bt288.2.2.2.2) else (if bt288.2.1 > 1125899906842624 then (incipitlaw7_Sort.j2 kj2 l0 a1 x5_1 x6_1 true bt288.1 bt288.2.1 bt288.2.2.1 bt288.2.2.2.1 bt288.2.2.2.2) else (if bt288.2.2.1 = 1 then (incipitlaw7_Sort.j2 kj2 l0 a1 x5_1 x6_1 false bt288.1 bt288.2.1 bt288.2.2.1 bt288.2.2.2.1 bt288.2.2.2.2) else (incipitlaw7_Sort.j2 kj2 l0 a1 x5_1 x6_1 (bt288.2.2.1 != 0) bt288.1 bt288.2.1 bt288.2.2.1 bt288.2.2.2.1 bt288.2.2.2.2))))) else (none)) else (none)) = some r:=by rw [if_pos rfl] at H;exact H
      clear H
      have H := H1
      clear H1
      by_cases c6 : 0 ≤ x6_1
      ·rw [if_pos c6] at H
       have c6b0 : decide (0 ≤ x6_1) = true := decide_eq_true c6
       clear c6
       by_cases c7 : x6_1 < (l0.length : Int)
       ·rw [if_pos c7] at H
        have c7b0 : decide (x6_1 < (l0.length : Int)) = true := decide_eq_true c7
        clear c7
        replace H := Option.bind_eq_some_iff.mp H
        obtain ⟨⟨t288, t289, t290, t291, t292⟩, A80, H⟩ := H
        replace H : (if t289 < 1 then (incipitlaw7_Sort.j2 kj2 l0 a1 x5_1 x6_1 true t288 t289 t290 t291 t292) else (if t289 > 1125899906842624 then (incipitlaw7_Sort.j2 kj2 l0 a1 x5_1 x6_1 true t288 t289 t290 t291 t292) else (if t290 = 1 then (incipitlaw7_Sort.j2 kj2 l0 a1 x5_1 x6_1 false t288 t289 t290 t291 t292) else (incipitlaw7_Sort.j2 kj2 l0 a1 x5_1 x6_1 (t290 != 0) t288 t289 t290 t291 t292)))) = some r:=H
        have A8 := Aside0.mk A80
        clear A80
        have HC9 := Aside0.mk H
        clear H
        have p287 : 0 ≤ (x6_1 : Int) := of_decide_eq_true (by first|(with_reducible assumption) | assumption)
        have q287 : x6_1 < (l0.length : Int) := of_decide_eq_true (by first|(with_reducible assumption) | assumption)
        obtain ⟨ad287, e287, hx287_0, hx287_1, hx287_2, hx287_3, hx287_4⟩ := at_T28 HR0.out x6_1 p287 q287
        cases e287
        replace hx287_0 := (HB.out.cell (World.block_lt_of_cell? w _ hx287_0)).trans hx287_0
        replace hx287_1 := (HB.out.cell (World.block_lt_of_cell? w _ hx287_1)).trans hx287_1
        replace hx287_2 := (HB.out.cell (World.block_lt_of_cell? w _ hx287_2)).trans hx287_2
        replace hx287_3 := (HB.out.cell (World.block_lt_of_cell? w _ hx287_3)).trans hx287_3
        replace hx287_4 := (HB.out.cell (World.block_lt_of_cell? w _ hx287_4)).trans hx287_4
        replace p287 := eq_true p287
        replace q287 := eq_true q287
        go_upto_region 6 with (first|(go_at_call 35;(with_reducible refine (incipitlaw7_Cut.calls ((rd_T28 l0 x6_1).f0) ((rd_T28 l0 x6_1).f1) ((rd_T28 l0 x6_1).f2) ((rd_T28 l0 x6_1).f3) ((rd_T28 l0 x6_1).f4) t288 t289 t290 t291 t292 _ A8.out).mono ?_);rintro e w10 ⟨rfl,hb⟩;have n0_:=Aside0.mk (Kd.R_below (by (with_reducible repeat (first|apply Kd.R_alloc|apply Kd.R_drewN|apply Kd.R_drew));exact HO_5.out) hb);have n1_:=Aside0.mk (below_step (by repeat (first|(with_reducible first|exact HB.out|apply below_alloc|apply pw_below_drewN|apply below_drew1)|exact HB.out)) hb);clear HO_5;clear HB;have HO_5:=n0_;have HB:=n1_;clear n0_ n1_;(try clear hb);(try clear hb2);(try clear hk);(try clear hi))|((with_reducible refine gate_dst (N:=7) rfl ?_);refine box_event ?hg (N:=7) ?hd (cs:=#[.string (⟨#[]⟩ : ByteArray),.int .i64 0,.int .i64 0,.string (⟨#[]⟩ : ByteArray),.string (⟨#[]⟩ : ByteArray)]) (t:=28) ?hr ?_;(case hd=>rfl);(case hg=>rfl);(case hr=>first|(go_simp;done)|(go_simp;rfl));intro gb293 hg w11 hbox hb;have n0_:=Aside0.mk (Kd.R_below (Kd.R_elderB (by (with_reducible repeat (first|apply Kd.R_alloc|apply Kd.R_drewN|apply Kd.R_drew));exact HO_5.out) gb293 (Nat.le_of_eq hg.symm)) hb);have n1_:=Aside0.mk (below_step (by repeat (first|(with_reducible first|exact HB.out|apply below_alloc|apply pw_below_drewN|apply below_drew1)|exact HB.out)) hb);have n2_:=Aside0.mk (hbox);have n3_:=Aside0.mk ((by rw [hg];exact (below_size (by repeat (first|(with_reducible first|exact HB.out|apply below_alloc|apply pw_below_drewN|apply below_drew1)|exact HB.out))) : w.heap.size ≤ gb293));have n4_:=Aside0.mk ((by rw [hg];exact (below_size (by repeat (first|(with_reducible first|exact HB.out|apply below_alloc|apply pw_below_drewN|apply below_drew1)|exact HB.out))) : w.heap.size ≤ gb293));clear HO_5;clear HB;have HO_5:=n0_;have HB:=n1_;have BK293:=n2_;have GW293:=n3_;have GE293:=n4_;clear n0_ n1_ n2_ n3_ n4_;clear hb hbox hg;have hcz12_0 : w11.cell? ⟨gb293,0,none⟩ = some (.string (⟨#[]⟩ : ByteArray)):=(blk_cell BK293.out 0).trans rfl;have hcz12_1 : w11.cell? ⟨gb293,1,none⟩ = some (.int .i64 0):=(blk_cell BK293.out 1).trans rfl;have hcz12_2 : w11.cell? ⟨gb293,2,none⟩ = some (.int .i64 0):=(blk_cell BK293.out 2).trans rfl;have hcz12_3 : w11.cell? ⟨gb293,3,none⟩ = some (.string (⟨#[]⟩ : ByteArray)):=(blk_cell BK293.out 3).trans rfl;have hcz12_4 : w11.cell? ⟨gb293,4,none⟩ = some (.string (⟨#[]⟩ : ByteArray)):=(blk_cell BK293.out 4).trans rfl;have hfz12_0:=blk_frozen BK293.out 0;have hfz12_1:=blk_frozen BK293.out 1;have hfz12_2:=blk_frozen BK293.out 2;have hfz12_3:=blk_frozen BK293.out 3;have hfz12_4:=blk_frozen BK293.out 4))
        repeat (go_quiet (first|(go_at_call 35;(with_reducible refine (incipitlaw7_Cut.calls ((rd_T28 l0 x6_1).f0) ((rd_T28 l0 x6_1).f1) ((rd_T28 l0 x6_1).f2) ((rd_T28 l0 x6_1).f3) ((rd_T28 l0 x6_1).f4) t288 t289 t290 t291 t292 _ A8.out).mono ?_);rintro e w10 ⟨rfl,hb⟩;have n0_:=Aside0.mk (Kd.R_below (by (with_reducible repeat (first|apply Kd.R_alloc|apply Kd.R_drewN|apply Kd.R_drew));exact HO_5.out) hb);have n1_:=Aside0.mk (below_step (by repeat (first|(with_reducible first|exact HB.out|apply below_alloc|apply pw_below_drewN|apply below_drew1)|exact HB.out)) hb);clear HO_5;clear HB;have HO_5:=n0_;have HB:=n1_;clear n0_ n1_;(try clear hb);(try clear hb2);(try clear hk);(try clear hi))|((with_reducible refine gate_dst (N:=7) rfl ?_);refine box_event ?hg (N:=7) ?hd (cs:=#[.string (⟨#[]⟩ : ByteArray),.int .i64 0,.int .i64 0,.string (⟨#[]⟩ : ByteArray),.string (⟨#[]⟩ : ByteArray)]) (t:=28) ?hr ?_;(case hd=>rfl);(case hg=>rfl);(case hr=>first|(go_simp;done)|(go_simp;rfl));intro gb293 hg w11 hbox hb;have n0_:=Aside0.mk (Kd.R_below (Kd.R_elderB (by (with_reducible repeat (first|apply Kd.R_alloc|apply Kd.R_drewN|apply Kd.R_drew));exact HO_5.out) gb293 (Nat.le_of_eq hg.symm)) hb);have n1_:=Aside0.mk (below_step (by repeat (first|(with_reducible first|exact HB.out|apply below_alloc|apply pw_below_drewN|apply below_drew1)|exact HB.out)) hb);have n2_:=Aside0.mk (hbox);have n3_:=Aside0.mk ((by rw [hg];exact (below_size (by repeat (first|(with_reducible first|exact HB.out|apply below_alloc|apply pw_below_drewN|apply below_drew1)|exact HB.out))) : w.heap.size ≤ gb293));have n4_:=Aside0.mk ((by rw [hg];exact (below_size (by repeat (first|(with_reducible first|exact HB.out|apply below_alloc|apply pw_below_drewN|apply below_drew1)|exact HB.out))) : w.heap.size ≤ gb293));clear HO_5;clear HB;have HO_5:=n0_;have HB:=n1_;have BK293:=n2_;have GW293:=n3_;have GE293:=n4_;clear n0_ n1_ n2_ n3_ n4_;clear hb hbox hg;have hcz12_0 : w11.cell? ⟨gb293,0,none⟩ = some (.string (⟨#[]⟩ : ByteArray)):=(blk_cell BK293.out 0).trans rfl;have hcz12_1 : w11.cell? ⟨gb293,1,none⟩ = some (.int .i64 0):=(blk_cell BK293.out 1).trans rfl;have hcz12_2 : w11.cell? ⟨gb293,2,none⟩ = some (.int .i64 0):=(blk_cell BK293.out 2).trans rfl;have hcz12_3 : w11.cell? ⟨gb293,3,none⟩ = some (.string (⟨#[]⟩ : ByteArray)):=(blk_cell BK293.out 3).trans rfl;have hcz12_4 : w11.cell? ⟨gb293,4,none⟩ = some (.string (⟨#[]⟩ : ByteArray)):=(blk_cell BK293.out 4).trans rfl;have hfz12_0:=blk_frozen BK293.out 0;have hfz12_1:=blk_frozen BK293.out 1;have hfz12_2:=blk_frozen BK293.out 2;have hfz12_3:=blk_frozen BK293.out 3;have hfz12_4:=blk_frozen BK293.out 4));go_upto_region 6 with (first|(go_at_call 35;(with_reducible refine (incipitlaw7_Cut.calls ((rd_T28 l0 x6_1).f0) ((rd_T28 l0 x6_1).f1) ((rd_T28 l0 x6_1).f2) ((rd_T28 l0 x6_1).f3) ((rd_T28 l0 x6_1).f4) t288 t289 t290 t291 t292 _ A8.out).mono ?_);rintro e w10 ⟨rfl,hb⟩;have n0_:=Aside0.mk (Kd.R_below (by (with_reducible repeat (first|apply Kd.R_alloc|apply Kd.R_drewN|apply Kd.R_drew));exact HO_5.out) hb);have n1_:=Aside0.mk (below_step (by repeat (first|(with_reducible first|exact HB.out|apply below_alloc|apply pw_below_drewN|apply below_drew1)|exact HB.out)) hb);clear HO_5;clear HB;have HO_5:=n0_;have HB:=n1_;clear n0_ n1_;(try clear hb);(try clear hb2);(try clear hk);(try clear hi))|((with_reducible refine gate_dst (N:=7) rfl ?_);refine box_event ?hg (N:=7) ?hd (cs:=#[.string (⟨#[]⟩ : ByteArray),.int .i64 0,.int .i64 0,.string (⟨#[]⟩ : ByteArray),.string (⟨#[]⟩ : ByteArray)]) (t:=28) ?hr ?_;(case hd=>rfl);(case hg=>rfl);(case hr=>first|(go_simp;done)|(go_simp;rfl));intro gb293 hg w11 hbox hb;have n0_:=Aside0.mk (Kd.R_below (Kd.R_elderB (by (with_reducible repeat (first|apply Kd.R_alloc|apply Kd.R_drewN|apply Kd.R_drew));exact HO_5.out) gb293 (Nat.le_of_eq hg.symm)) hb);have n1_:=Aside0.mk (below_step (by repeat (first|(with_reducible first|exact HB.out|apply below_alloc|apply pw_below_drewN|apply below_drew1)|exact HB.out)) hb);have n2_:=Aside0.mk (hbox);have n3_:=Aside0.mk ((by rw [hg];exact (below_size (by repeat (first|(with_reducible first|exact HB.out|apply below_alloc|apply pw_below_drewN|apply below_drew1)|exact HB.out))) : w.heap.size ≤ gb293));have n4_:=Aside0.mk ((by rw [hg];exact (below_size (by repeat (first|(with_reducible first|exact HB.out|apply below_alloc|apply pw_below_drewN|apply below_drew1)|exact HB.out))) : w.heap.size ≤ gb293));clear HO_5;clear HB;have HO_5:=n0_;have HB:=n1_;have BK293:=n2_;have GW293:=n3_;have GE293:=n4_;clear n0_ n1_ n2_ n3_ n4_;clear hb hbox hg;have hcz12_0 : w11.cell? ⟨gb293,0,none⟩ = some (.string (⟨#[]⟩ : ByteArray)):=(blk_cell BK293.out 0).trans rfl;have hcz12_1 : w11.cell? ⟨gb293,1,none⟩ = some (.int .i64 0):=(blk_cell BK293.out 1).trans rfl;have hcz12_2 : w11.cell? ⟨gb293,2,none⟩ = some (.int .i64 0):=(blk_cell BK293.out 2).trans rfl;have hcz12_3 : w11.cell? ⟨gb293,3,none⟩ = some (.string (⟨#[]⟩ : ByteArray)):=(blk_cell BK293.out 3).trans rfl;have hcz12_4 : w11.cell? ⟨gb293,4,none⟩ = some (.string (⟨#[]⟩ : ByteArray)):=(blk_cell BK293.out 4).trans rfl;have hfz12_0:=blk_frozen BK293.out 0;have hfz12_1:=blk_frozen BK293.out 1;have hfz12_2:=blk_frozen BK293.out 2;have hfz12_3:=blk_frozen BK293.out 3;have hfz12_4:=blk_frozen BK293.out 4)))
        (try simp only [Act.put, List.setIfInBounds_toArray, List.set_cons_zero, List.set_cons_succ])
        go_cut [43] (fun v43 wc=>∃ (kq : Nat) (x43_8 : Bool),v43 = .bool x43_8∧Aside0 (incipitlaw7_Sort.j2 kq l0 a1 x5_1 x6_1 x43_8 t288 t289 t290 t291 t292 = some r)∧Aside0 (kq ≤ kj2)∧Aside0 (Kd.R k28 28 wc w.heap.size (fun k_=>k_ ≠ gb293) u5 x5_1)∧Aside0 (wc.heap[gb293]? = some (.cells #[.string t288,.int .i64 t289,.int .i64 t290,.string t291,.string t292] 28 (0,0)))∧Aside0 (Below w.heap.size w wc))
        case first =>
         have H := HC9.out
         clear HC9
         by_cases c13 : t289 < 1
         ·rw [if_pos c13] at H
          have c13b0 : decide (t289 < 1) = true := decide_eq_true c13
          clear c13
          (first | rw [c13b0]|(simp only [i64_w, i32_w]; rw [c13b0]) | skip)
          have H' := Aside0.mk H
          clear H
          have hcz14_0 : w11.cell? ⟨gb293,0,none⟩ = some (.string (⟨#[]⟩ : ByteArray)):=(blk_cell BK293.out 0).trans rfl
          have hcz14_1 : w11.cell? ⟨gb293, 1, none⟩ = some (.int .i64 0) := (blk_cell BK293.out 1).trans rfl
          have hcz14_2 : w11.cell? ⟨gb293, 2, none⟩ = some (.int .i64 0) := (blk_cell BK293.out 2).trans rfl
          have hcz14_3 : w11.cell? ⟨gb293,3,none⟩ = some (.string (⟨#[]⟩ : ByteArray)):=(blk_cell BK293.out 3).trans rfl
          have hcz14_4 : w11.cell? ⟨gb293,4,none⟩ = some (.string (⟨#[]⟩ : ByteArray)):=(blk_cell BK293.out 4).trans rfl
          have hfz14_0 := blk_frozen BK293.out 0
          have hfz14_1 := blk_frozen BK293.out 1
          have hfz14_2 := blk_frozen BK293.out 2
          have hfz14_3 := blk_frozen BK293.out 3
          have hfz14_4 := blk_frozen BK293.out 4
          go_wp2
          repeat (go_quiet (fail); try go_wp2)
          go_meet
          case rel=>exact ⟨_,(true),(by first | rfl|(simp;done)|(simp [*];done)),H',⟨by have:=HK1.out;have:=HJ2.out;first | omega|exact Nat.le_refl _⟩,⟨by (with_reducible repeat (first|apply Kd.R_alloc|apply Kd.R_drewN|apply Kd.R_drew));exact Kd.R_mono (Kd.R_far (p:=⟨gb293,4,none⟩) (Kd.R_far (p:=⟨gb293,3,none⟩) (Kd.R_far (p:=⟨gb293,2,none⟩) (Kd.R_far (p:=⟨gb293,1,none⟩) (Kd.R_far (p:=⟨gb293,0,none⟩) (Kd.R_mono HO_5.out (fun k_ hk=>(⟨hk,hk.2⟩ : _∧k_ ≠ gb293))) (fun _ hk=>hk.2) (.string t288)) (fun _ hk=>hk.2) (.int .i64 t289)) (fun _ hk=>hk.2) (.int .i64 t290)) (fun _ hk=>hk.2) (.string t291)) (fun _ hk=>hk.2) (.string t292)) (fun _ hk=>hk.1.2)⟩,⟨by (with_reducible repeat (first|refine blk_drewN ?_ _|refine blk_drew ?_|refine blk_alloc ?_ _));refine blk_put (cs:=#[.string t288,.int .i64 t289,.int .i64 t290,.string t291,.string (⟨#[]⟩ : ByteArray)]) ?_ 4 _ rfl;(with_reducible repeat (first|refine blk_drewN ?_ _|refine blk_drew ?_|refine blk_alloc ?_ _));refine blk_put (cs:=#[.string t288,.int .i64 t289,.int .i64 t290,.string (⟨#[]⟩ : ByteArray),.string (⟨#[]⟩ : ByteArray)]) ?_ 3 _ rfl;(with_reducible repeat (first|refine blk_drewN ?_ _|refine blk_drew ?_|refine blk_alloc ?_ _));refine blk_put (cs:=#[.string t288,.int .i64 t289,.int .i64 0,.string (⟨#[]⟩ : ByteArray),.string (⟨#[]⟩ : ByteArray)]) ?_ 2 _ rfl;(with_reducible repeat (first|refine blk_drewN ?_ _|refine blk_drew ?_|refine blk_alloc ?_ _));refine blk_put (cs:=#[.string t288,.int .i64 0,.int .i64 0,.string (⟨#[]⟩ : ByteArray),.string (⟨#[]⟩ : ByteArray)]) ?_ 1 _ rfl;(with_reducible repeat (first|refine blk_drewN ?_ _|refine blk_drew ?_|refine blk_alloc ?_ _));refine blk_put (cs:=#[.string (⟨#[]⟩ : ByteArray),.int .i64 0,.int .i64 0,.string (⟨#[]⟩ : ByteArray),.string (⟨#[]⟩ : ByteArray)]) ?_ 0 _ rfl;(with_reducible repeat (first|refine blk_drewN ?_ _|refine blk_drew ?_|refine blk_alloc ?_ _));exact BK293.out⟩,⟨by repeat (first|(with_reducible first|exact HB.out|apply below_alloc|apply pw_below_drewN|apply below_drew1|refine below_set ?_ GE293.out)|exact HB.out)⟩⟩
         ·rw [if_neg c13] at H
          have c13b0 : decide (t289 < 1) = false := decide_eq_false c13
          clear c13
          (first | rw [c13b0]|(simp only [i64_w, i32_w]; rw [c13b0]) | skip)
          by_cases c15 : t289 > 1125899906842624
          ·rw [if_pos c15] at H
           have c15b0 : decide (1125899906842624 < t289) = true := decide_eq_true c15
           clear c15
           have H' := Aside0.mk H
           clear H
           have hcz16_0 : w11.cell? ⟨gb293,0,none⟩ = some (.string (⟨#[]⟩ : ByteArray)):=(blk_cell BK293.out 0).trans rfl
           have hcz16_1 : w11.cell? ⟨gb293, 1, none⟩ = some (.int .i64 0) := (blk_cell BK293.out 1).trans rfl
           have hcz16_2 : w11.cell? ⟨gb293, 2, none⟩ = some (.int .i64 0) := (blk_cell BK293.out 2).trans rfl
           have hcz16_3 : w11.cell? ⟨gb293,3,none⟩ = some (.string (⟨#[]⟩ : ByteArray)):=(blk_cell BK293.out 3).trans rfl
           have hcz16_4 : w11.cell? ⟨gb293,4,none⟩ = some (.string (⟨#[]⟩ : ByteArray)):=(blk_cell BK293.out 4).trans rfl
           have hfz16_0 := blk_frozen BK293.out 0
           have hfz16_1 := blk_frozen BK293.out 1
           have hfz16_2 := blk_frozen BK293.out 2
           have hfz16_3 := blk_frozen BK293.out 3
           have hfz16_4 := blk_frozen BK293.out 4
           go_wp2
           repeat (go_quiet (fail); try go_wp2)
           go_meet
           case rel=>exact ⟨_,(true),(by first | rfl|(simp;done)|(simp [*];done)),H',⟨by have:=HK1.out;have:=HJ2.out;first | omega|exact Nat.le_refl _⟩,⟨by (with_reducible repeat (first|apply Kd.R_alloc|apply Kd.R_drewN|apply Kd.R_drew));exact Kd.R_mono (Kd.R_far (p:=⟨gb293,4,none⟩) (Kd.R_far (p:=⟨gb293,3,none⟩) (Kd.R_far (p:=⟨gb293,2,none⟩) (Kd.R_far (p:=⟨gb293,1,none⟩) (Kd.R_far (p:=⟨gb293,0,none⟩) (Kd.R_mono HO_5.out (fun k_ hk=>(⟨hk,hk.2⟩ : _∧k_ ≠ gb293))) (fun _ hk=>hk.2) (.string t288)) (fun _ hk=>hk.2) (.int .i64 t289)) (fun _ hk=>hk.2) (.int .i64 t290)) (fun _ hk=>hk.2) (.string t291)) (fun _ hk=>hk.2) (.string t292)) (fun _ hk=>hk.1.2)⟩,⟨by (with_reducible repeat (first|refine blk_drewN ?_ _|refine blk_drew ?_|refine blk_alloc ?_ _));refine blk_put (cs:=#[.string t288,.int .i64 t289,.int .i64 t290,.string t291,.string (⟨#[]⟩ : ByteArray)]) ?_ 4 _ rfl;(with_reducible repeat (first|refine blk_drewN ?_ _|refine blk_drew ?_|refine blk_alloc ?_ _));refine blk_put (cs:=#[.string t288,.int .i64 t289,.int .i64 t290,.string (⟨#[]⟩ : ByteArray),.string (⟨#[]⟩ : ByteArray)]) ?_ 3 _ rfl;(with_reducible repeat (first|refine blk_drewN ?_ _|refine blk_drew ?_|refine blk_alloc ?_ _));refine blk_put (cs:=#[.string t288,.int .i64 t289,.int .i64 0,.string (⟨#[]⟩ : ByteArray),.string (⟨#[]⟩ : ByteArray)]) ?_ 2 _ rfl;(with_reducible repeat (first|refine blk_drewN ?_ _|refine blk_drew ?_|refine blk_alloc ?_ _));refine blk_put (cs:=#[.string t288,.int .i64 0,.int .i64 0,.string (⟨#[]⟩ : ByteArray),.string (⟨#[]⟩ : ByteArray)]) ?_ 1 _ rfl;(with_reducible repeat (first|refine blk_drewN ?_ _|refine blk_drew ?_|refine blk_alloc ?_ _));refine blk_put (cs:=#[.string (⟨#[]⟩ : ByteArray),.int .i64 0,.int .i64 0,.string (⟨#[]⟩ : ByteArray),.string (⟨#[]⟩ : ByteArray)]) ?_ 0 _ rfl;(with_reducible repeat (first|refine blk_drewN ?_ _|refine blk_drew ?_|refine blk_alloc ?_ _));exact BK293.out⟩,⟨by repeat (first|(with_reducible first|exact HB.out|apply below_alloc|apply pw_below_drewN|apply below_drew1|refine below_set ?_ GE293.out)|exact HB.out)⟩⟩
          ·rw [if_neg c15] at H
           have c15b0 : decide (1125899906842624 < t289) = false := decide_eq_false c15
           clear c15
           by_cases c17 : t290 = 1
           ·rw [if_pos c17] at H
            have c17b0 : (t290 == 1) = true := beq_iff_eq.mpr c17
            have c17b1 : (t290 != 1) = false := bne_eq_false_iff_eq.mpr c17
            clear c17
            have H' := Aside0.mk H
            clear H
            have hcz18_0 : w11.cell? ⟨gb293,0,none⟩ = some (.string (⟨#[]⟩ : ByteArray)):=(blk_cell BK293.out 0).trans rfl
            have hcz18_1 : w11.cell? ⟨gb293, 1, none⟩ = some (.int .i64 0) := (blk_cell BK293.out 1).trans rfl
            have hcz18_2 : w11.cell? ⟨gb293, 2, none⟩ = some (.int .i64 0) := (blk_cell BK293.out 2).trans rfl
            have hcz18_3 : w11.cell? ⟨gb293,3,none⟩ = some (.string (⟨#[]⟩ : ByteArray)):=(blk_cell BK293.out 3).trans rfl
            have hcz18_4 : w11.cell? ⟨gb293,4,none⟩ = some (.string (⟨#[]⟩ : ByteArray)):=(blk_cell BK293.out 4).trans rfl
            have hfz18_0 := blk_frozen BK293.out 0
            have hfz18_1 := blk_frozen BK293.out 1
            have hfz18_2 := blk_frozen BK293.out 2
            have hfz18_3 := blk_frozen BK293.out 3
            have hfz18_4 := blk_frozen BK293.out 4
            go_wp2
            repeat (go_quiet (fail); try go_wp2)
            go_meet
            case rel=>exact ⟨_,(false),(by first | rfl|(simp;done)|(simp [*];done)),H',⟨by have:=HK1.out;have:=HJ2.out;first | omega|exact Nat.le_refl _⟩,⟨by (with_reducible repeat (first|apply Kd.R_alloc|apply Kd.R_drewN|apply Kd.R_drew));exact Kd.R_mono (Kd.R_far (p:=⟨gb293,4,none⟩) (Kd.R_far (p:=⟨gb293,3,none⟩) (Kd.R_far (p:=⟨gb293,2,none⟩) (Kd.R_far (p:=⟨gb293,1,none⟩) (Kd.R_far (p:=⟨gb293,0,none⟩) (Kd.R_mono HO_5.out (fun k_ hk=>(⟨hk,hk.2⟩ : _∧k_ ≠ gb293))) (fun _ hk=>hk.2) (.string t288)) (fun _ hk=>hk.2) (.int .i64 t289)) (fun _ hk=>hk.2) (.int .i64 t290)) (fun _ hk=>hk.2) (.string t291)) (fun _ hk=>hk.2) (.string t292)) (fun _ hk=>hk.1.2)⟩,⟨by (with_reducible repeat (first|refine blk_drewN ?_ _|refine blk_drew ?_|refine blk_alloc ?_ _));refine blk_put (cs:=#[.string t288,.int .i64 t289,.int .i64 t290,.string t291,.string (⟨#[]⟩ : ByteArray)]) ?_ 4 _ rfl;(with_reducible repeat (first|refine blk_drewN ?_ _|refine blk_drew ?_|refine blk_alloc ?_ _));refine blk_put (cs:=#[.string t288,.int .i64 t289,.int .i64 t290,.string (⟨#[]⟩ : ByteArray),.string (⟨#[]⟩ : ByteArray)]) ?_ 3 _ rfl;(with_reducible repeat (first|refine blk_drewN ?_ _|refine blk_drew ?_|refine blk_alloc ?_ _));refine blk_put (cs:=#[.string t288,.int .i64 t289,.int .i64 0,.string (⟨#[]⟩ : ByteArray),.string (⟨#[]⟩ : ByteArray)]) ?_ 2 _ rfl;(with_reducible repeat (first|refine blk_drewN ?_ _|refine blk_drew ?_|refine blk_alloc ?_ _));refine blk_put (cs:=#[.string t288,.int .i64 0,.int .i64 0,.string (⟨#[]⟩ : ByteArray),.string (⟨#[]⟩ : ByteArray)]) ?_ 1 _ rfl;(with_reducible repeat (first|refine blk_drewN ?_ _|refine blk_drew ?_|refine blk_alloc ?_ _));refine blk_put (cs:=#[.string (⟨#[]⟩ : ByteArray),.int .i64 0,.int .i64 0,.string (⟨#[]⟩ : ByteArray),.string (⟨#[]⟩ : ByteArray)]) ?_ 0 _ rfl;(with_reducible repeat (first|refine blk_drewN ?_ _|refine blk_drew ?_|refine blk_alloc ?_ _));exact BK293.out⟩,⟨by repeat (first|(with_reducible first|exact HB.out|apply below_alloc|apply pw_below_drewN|apply below_drew1|refine below_set ?_ GE293.out)|exact HB.out)⟩⟩
           ·rw [if_neg c17] at H
            have c17b0 : (t290 == 1) = false := beq_eq_false_iff_ne.mpr c17
            have c17b1 : (t290 != 1) = true := bne_iff_ne.mpr c17
            have H' := Aside0.mk H
            clear H
            have hcz19_0 : w11.cell? ⟨gb293,0,none⟩ = some (.string (⟨#[]⟩ : ByteArray)):=(blk_cell BK293.out 0).trans rfl
            have hcz19_1 : w11.cell? ⟨gb293, 1, none⟩ = some (.int .i64 0) := (blk_cell BK293.out 1).trans rfl
            have hcz19_2 : w11.cell? ⟨gb293, 2, none⟩ = some (.int .i64 0) := (blk_cell BK293.out 2).trans rfl
            have hcz19_3 : w11.cell? ⟨gb293,3,none⟩ = some (.string (⟨#[]⟩ : ByteArray)):=(blk_cell BK293.out 3).trans rfl
            have hcz19_4 : w11.cell? ⟨gb293,4,none⟩ = some (.string (⟨#[]⟩ : ByteArray)):=(blk_cell BK293.out 4).trans rfl
            have hfz19_0 := blk_frozen BK293.out 0
            have hfz19_1 := blk_frozen BK293.out 1
            have hfz19_2 := blk_frozen BK293.out 2
            have hfz19_3 := blk_frozen BK293.out 3
            have hfz19_4 := blk_frozen BK293.out 4
            go_wp2
            repeat (go_quiet (fail); try go_wp2)
            go_meet
            case rel=>exact ⟨_,((t290 != 0)),(by first | rfl|(simp;done)|(simp [*];done)),H',⟨by have:=HK1.out;have:=HJ2.out;first | omega|exact Nat.le_refl _⟩,⟨by (with_reducible repeat (first|apply Kd.R_alloc|apply Kd.R_drewN|apply Kd.R_drew));exact Kd.R_mono (Kd.R_far (p:=⟨gb293,4,none⟩) (Kd.R_far (p:=⟨gb293,3,none⟩) (Kd.R_far (p:=⟨gb293,2,none⟩) (Kd.R_far (p:=⟨gb293,1,none⟩) (Kd.R_far (p:=⟨gb293,0,none⟩) (Kd.R_mono HO_5.out (fun k_ hk=>(⟨hk,hk.2⟩ : _∧k_ ≠ gb293))) (fun _ hk=>hk.2) (.string t288)) (fun _ hk=>hk.2) (.int .i64 t289)) (fun _ hk=>hk.2) (.int .i64 t290)) (fun _ hk=>hk.2) (.string t291)) (fun _ hk=>hk.2) (.string t292)) (fun _ hk=>hk.1.2)⟩,⟨by (with_reducible repeat (first|refine blk_drewN ?_ _|refine blk_drew ?_|refine blk_alloc ?_ _));refine blk_put (cs:=#[.string t288,.int .i64 t289,.int .i64 t290,.string t291,.string (⟨#[]⟩ : ByteArray)]) ?_ 4 _ rfl;(with_reducible repeat (first|refine blk_drewN ?_ _|refine blk_drew ?_|refine blk_alloc ?_ _));refine blk_put (cs:=#[.string t288,.int .i64 t289,.int .i64 t290,.string (⟨#[]⟩ : ByteArray),.string (⟨#[]⟩ : ByteArray)]) ?_ 3 _ rfl;(with_reducible repeat (first|refine blk_drewN ?_ _|refine blk_drew ?_|refine blk_alloc ?_ _));refine blk_put (cs:=#[.string t288,.int .i64 t289,.int .i64 0,.string (⟨#[]⟩ : ByteArray),.string (⟨#[]⟩ : ByteArray)]) ?_ 2 _ rfl;(with_reducible repeat (first|refine blk_drewN ?_ _|refine blk_drew ?_|refine blk_alloc ?_ _));refine blk_put (cs:=#[.string t288,.int .i64 0,.int .i64 0,.string (⟨#[]⟩ : ByteArray),.string (⟨#[]⟩ : ByteArray)]) ?_ 1 _ rfl;(with_reducible repeat (first|refine blk_drewN ?_ _|refine blk_drew ?_|refine blk_alloc ?_ _));refine blk_put (cs:=#[.string (⟨#[]⟩ : ByteArray),.int .i64 0,.int .i64 0,.string (⟨#[]⟩ : ByteArray),.string (⟨#[]⟩ : ByteArray)]) ?_ 0 _ rfl;(with_reducible repeat (first|refine blk_drewN ?_ _|refine blk_drew ?_|refine blk_alloc ?_ _));exact BK293.out⟩,⟨by repeat (first|(with_reducible first|exact HB.out|apply below_alloc|apply pw_below_drewN|apply below_drew1|refine below_set ?_ GE293.out)|exact HB.out)⟩⟩
        case rest =>
         clear HC9
         try clear c1
         try clear c2
         try clear p2
         try clear q2
         try clear hx2
         try clear c4
         try clear c4b0
         try clear c5
         try clear c6
         try clear c6b0
         try clear c7
         try clear c7b0
         try clear c13
         try clear c13b0
         try clear c15
         try clear c15b0
         try clear c17
         try clear c17b0
         try clear c17b1
         try clear hcz12_0
         try clear hcz12_1
         try clear hcz12_2
         try clear hcz12_3
         try clear hcz12_4
         try clear hcz14_0
         try clear hcz14_1
         try clear hcz14_2
         try clear hcz14_3
         try clear hcz14_4
         try clear hcz16_0
         try clear hcz16_1
         try clear hcz16_2
         try clear hcz16_3
         try clear hcz16_4
         try clear hcz18_0
         try clear hcz18_1
         try clear hcz18_2
         try clear hcz18_3
         try clear hcz18_4
         try clear hcz19_0
         try clear hcz19_1
         try clear hcz19_2
         try clear hcz19_3
         try clear hcz19_4
         try clear hfz12_0
         try clear hfz12_1
         try clear hfz12_2
         try clear hfz12_3
         try clear hfz12_4
         try clear hfz14_0
         try clear hfz14_1
         try clear hfz14_2
         try clear hfz14_3
         try clear hfz14_4
         try clear hfz16_0
         try clear hfz16_1
         try clear hfz16_2
         try clear hfz16_3
         try clear hfz16_4
         try clear hfz18_0
         try clear hfz18_1
         try clear hfz18_2
         try clear hfz18_3
         try clear hfz18_4
         try clear hfz19_0
         try clear hfz19_1
         try clear hfz19_2
         try clear hfz19_3
         try clear hfz19_4
         try clear hx287_0
         try clear hx287_1
         try clear hx287_2
         try clear hx287_3
         try clear hx287_4
         try clear p2
         try clear p287
         try clear q287
         obtain ⟨kq, x43_8, rfl, HA, HJ8, HO_5, BK293, HB⟩ := hcut
         cases kq with
         | zero => exact absurd HA.out (by simp [incipitlaw7_Sort.j2])
         | succ kj8 =>
          have H := HA.out
          clear HA
          simp only [incipitlaw7_Sort.j2] at H
          by_cases c20 : x43_8 = true
          ·subst c20
           have H1 : (incipitlaw7_Sort.l0 kj8 l0 a1 x5_1 (wrap64 (x6_1 + 1))) = some r:=by rw [if_pos rfl] at H;exact H
           clear H
           have H := H1
           clear H1
           have H' := Aside0.mk H
           clear H
           go_wp2
           repeat (go_quiet (fail); try go_wp2)
           go_roundg kj8
           case measure => have := HK1.out; have := HJ2.out; have := HJ8.out; omega
           case rel=>exact ⟨(x5_1),(wrap64 (x6_1 + 1)),(by first | rfl|(simp;done)|(simp [*];done)),H',⟨by have:=HK1.out;have:=HJ2.out;have:=HJ8.out;omega⟩,⟨by (with_reducible repeat (first|apply Kd.R_alloc|apply Kd.R_drewN|apply Kd.R_drew));exact Kd.R_mono HO_5.out (fun _ hk=>trivial)⟩,⟨by repeat (first|(with_reducible first|exact HB.out|apply below_alloc|apply pw_below_drewN|apply below_drew1|refine below_set ?_ GE293.out)|exact HB.out)⟩⟩
          ·replace c20 := Bool.eq_false_iff.mpr c20
           subst c20
           have H1 : (if t290 = 0 then (incipitlaw7_Sort.j3 kj8 l0 a1 x5_1 x6_1 t288 t289 t290 t291 (⟨#[]⟩ : ByteArray)) else (incipitlaw7_Sort.j3 kj8 l0 a1 x5_1 x6_1 t288 t289 t290 t291 t292)) = some r:=by rw [if_neg (show ¬ (false = true) by decide)] at H;exact H
           clear H
           have H := H1
           clear H1
           have HC21 := Aside0.mk H
           clear H
           have hcz22_0 : wc.cell? ⟨gb293, 0, none⟩ = some (.string t288) := (blk_cell BK293.out 0).trans rfl
           have hcz22_1 : wc.cell? ⟨gb293, 1, none⟩ = some (.int .i64 t289) := (blk_cell BK293.out 1).trans rfl
           have hcz22_2 : wc.cell? ⟨gb293, 2, none⟩ = some (.int .i64 t290) := (blk_cell BK293.out 2).trans rfl
           have hcz22_3 : wc.cell? ⟨gb293, 3, none⟩ = some (.string t291) := (blk_cell BK293.out 3).trans rfl
           have hcz22_4 : wc.cell? ⟨gb293, 4, none⟩ = some (.string t292) := (blk_cell BK293.out 4).trans rfl
           have hfz22_0 := blk_frozen BK293.out 0
           have hfz22_1 := blk_frozen BK293.out 1
           have hfz22_2 := blk_frozen BK293.out 2
           have hfz22_3 := blk_frozen BK293.out 3
           have hfz22_4 := blk_frozen BK293.out 4
           go_upto_if 46 with (fail)
           repeat (go_quiet (fail); go_upto_if 46 with (fail))
           go_cut [] (fun wc=>∃ (kq : Nat) (x294004_20 : ByteArray),Aside0 (incipitlaw7_Sort.j3 kq l0 a1 x5_1 x6_1 t288 t289 t290 t291 x294004_20 = some r)∧Aside0 (kq ≤ kj8)∧Aside0 (Kd.R k28 28 wc w.heap.size (fun k_=>k_ ≠ gb293) u5 x5_1)∧Aside0 (wc.heap[gb293]? = some (.cells #[.string t288,.int .i64 t289,.int .i64 t290,.string t291,.string x294004_20] 28 (0,0)))∧Aside0 (Below w.heap.size w wc))
           case first =>
            have H := HC21.out
            clear HC21
            by_cases c23 : t290 = 0
            ·rw [if_pos c23] at H
             have c23b0 : (t290 == 0) = true := beq_iff_eq.mpr c23
             have c23b1 : (t290 != 0) = false := bne_eq_false_iff_eq.mpr c23
             clear c23
             (first | rw [c23b0]|(simp only [i64_w, i32_w]; rw [c23b0]) | skip)
             have H' := Aside0.mk H
             clear H
             have hcz24_0 : wc.cell? ⟨gb293, 0, none⟩ = some (.string t288) := (blk_cell BK293.out 0).trans rfl
             have hcz24_1 : wc.cell? ⟨gb293, 1, none⟩ = some (.int .i64 t289) := (blk_cell BK293.out 1).trans rfl
             have hcz24_2 : wc.cell? ⟨gb293, 2, none⟩ = some (.int .i64 t290) := (blk_cell BK293.out 2).trans rfl
             have hcz24_3 : wc.cell? ⟨gb293, 3, none⟩ = some (.string t291) := (blk_cell BK293.out 3).trans rfl
             have hcz24_4 : wc.cell? ⟨gb293, 4, none⟩ = some (.string t292) := (blk_cell BK293.out 4).trans rfl
             have hfz24_0 := blk_frozen BK293.out 0
             have hfz24_1 := blk_frozen BK293.out 1
             have hfz24_2 := blk_frozen BK293.out 2
             have hfz24_3 := blk_frozen BK293.out 3
             have hfz24_4 := blk_frozen BK293.out 4
             go_wp2
             repeat (go_quiet (fail); try go_wp2)
             go_meet
             case rel=>exact ⟨_,((⟨#[]⟩ : ByteArray)),H',⟨by have:=HK1.out;have:=HJ2.out;have:=HJ8.out;first | omega|exact Nat.le_refl _⟩,⟨by (with_reducible repeat (first|apply Kd.R_alloc|apply Kd.R_drewN|apply Kd.R_drew));exact Kd.R_mono (Kd.R_far (p:=⟨gb293,4,none⟩) (Kd.R_mono HO_5.out (fun k_ hk=>(⟨hk,hk⟩ : _∧k_ ≠ gb293))) (fun _ hk=>hk.2) (.string (⟨#[]⟩ : ByteArray))) (fun _ hk=>hk.1)⟩,⟨by (with_reducible repeat (first|refine blk_drewN ?_ _|refine blk_drew ?_|refine blk_alloc ?_ _));refine blk_put (cs:=#[.string t288,.int .i64 t289,.int .i64 t290,.string t291,.string t292]) ?_ 4 _ rfl;(with_reducible repeat (first|refine blk_drewN ?_ _|refine blk_drew ?_|refine blk_alloc ?_ _));exact BK293.out⟩,⟨by repeat (first|(with_reducible first|exact HB.out|apply below_alloc|apply pw_below_drewN|apply below_drew1|refine below_set ?_ GE293.out)|exact HB.out)⟩⟩
            ·rw [if_neg c23] at H
             have c23b0 : (t290 == 0) = false := beq_eq_false_iff_ne.mpr c23
             have c23b1 : (t290 != 0) = true := bne_iff_ne.mpr c23
             (first | rw [c23b0]|(simp only [i64_w, i32_w]; rw [c23b0]) | skip)
             have H' := Aside0.mk H
             clear H
             go_wp2
             repeat (go_quiet (fail); try go_wp2)
             go_meet
             case rel=>exact ⟨_,(t292),H',⟨by have:=HK1.out;have:=HJ2.out;have:=HJ8.out;first | omega|exact Nat.le_refl _⟩,⟨by (with_reducible repeat (first|apply Kd.R_alloc|apply Kd.R_drewN|apply Kd.R_drew));exact HO_5.out⟩,⟨by (with_reducible repeat (first|refine blk_drewN ?_ _|refine blk_drew ?_|refine blk_alloc ?_ _));exact BK293.out⟩,⟨by repeat (first|(with_reducible first|exact HB.out|apply below_alloc|apply pw_below_drewN|apply below_drew1|refine below_set ?_ GE293.out)|exact HB.out)⟩⟩
           case rest =>
            clear HC21
            try clear c1
            try clear c2
            try clear p2
            try clear q2
            try clear hx2
            try clear c4
            try clear c4b0
            try clear c5
            try clear c6
            try clear c6b0
            try clear p6
            try clear c7
            try clear c7b0
            try clear c13
            try clear c13b0
            try clear c15
            try clear c15b0
            try clear c17
            try clear c17b0
            try clear c17b1
            try clear c20
            try clear c23
            try clear c23b0
            try clear c23b1
            try clear hcz12_0
            try clear hcz12_1
            try clear hcz12_2
            try clear hcz12_3
            try clear hcz12_4
            try clear hcz14_0
            try clear hcz14_1
            try clear hcz14_2
            try clear hcz14_3
            try clear hcz14_4
            try clear hcz16_0
            try clear hcz16_1
            try clear hcz16_2
            try clear hcz16_3
            try clear hcz16_4
            try clear hcz18_0
            try clear hcz18_1
            try clear hcz18_2
            try clear hcz18_3
            try clear hcz18_4
            try clear hcz19_0
            try clear hcz19_1
            try clear hcz19_2
            try clear hcz19_3
            try clear hcz19_4
            try clear hcz22_0
            try clear hcz22_1
            try clear hcz22_2
            try clear hcz22_3
            try clear hcz22_4
            try clear hcz24_0
            try clear hcz24_1
            try clear hcz24_2
            try clear hcz24_3
            try clear hcz24_4
            try clear hfz12_0
            try clear hfz12_1
            try clear hfz12_2
            try clear hfz12_3
            try clear hfz12_4
            try clear hfz14_0
            try clear hfz14_1
            try clear hfz14_2
            try clear hfz14_3
            try clear hfz14_4
            try clear hfz16_0
            try clear hfz16_1
            try clear hfz16_2
            try clear hfz16_3
            try clear hfz16_4
            try clear hfz18_0
            try clear hfz18_1
            try clear hfz18_2
            try clear hfz18_3
            try clear hfz18_4
            try clear hfz19_0
            try clear hfz19_1
            try clear hfz19_2
            try clear hfz19_3
            try clear hfz19_4
            try clear hfz22_0
            try clear hfz22_1
            try clear hfz22_2
            try clear hfz22_3
            try clear hfz22_4
            try clear hfz24_0
            try clear hfz24_1
            try clear hfz24_2
            try clear hfz24_3
            try clear hfz24_4
            try clear hx287_0
            try clear hx287_1
            try clear hx287_2
            try clear hx287_3
            try clear hx287_4
            try clear p2
            try clear p287
            try clear q2
            try clear q287
            obtain ⟨kq, x294004_20, HA, HJ20, HO_5, BK293, HB⟩ := hcut
            cases kq with
            | zero => exact absurd HA.out (by simp [incipitlaw7_Sort.j3])
            | succ kj20 =>
             have H := HA.out
             clear HA
             simp only [incipitlaw7_Sort.j3] at H
             have H' := Aside0.mk H
             clear H
             go_wp2
             repeat (go_quiet (fail); try go_wp2)
             go_loopg [8,9] kj20 (fun kq v8 v9 w'=>∃ (x8_5 : Bool) (x9_5 : Int),v8 = .bool x8_5∧v9 = .int .i64 x9_5∧Aside0 (incipitlaw7_Sort.l1 kq l0 a1 x5_1 x6_1 x8_5 x9_5 t288 t289 t290 t291 x294004_20 = some r)∧Aside0 (kq ≤ kj20)∧Aside0 (Kd.R k28 28 w' w.heap.size (fun k_=>k_ ≠ gb293) u5 x5_1)∧Aside0 (w'.heap[gb293]? = some (.cells #[.string t288,.int .i64 t289,.int .i64 t290,.string t291,.string x294004_20] 28 (0,0)))∧Aside0 (Below w.heap.size w w'))
             case atStart=>exact ⟨(false),(0),(by first | rfl|(simp;done)|(simp [*];done)),(by first | rfl|(simp;done)|(simp [*];done)),H',⟨Nat.le_refl _⟩,⟨by (with_reducible repeat (first|apply Kd.R_alloc|apply Kd.R_drewN|apply Kd.R_drew));exact HO_5.out⟩,⟨by (with_reducible repeat (first|refine blk_drewN ?_ _|refine blk_drew ?_|refine blk_alloc ?_ _));exact BK293.out⟩,⟨by repeat (first|(with_reducible first|exact HB.out|apply below_alloc|apply pw_below_drewN|apply below_drew1|refine below_set ?_ GE293.out)|exact HB.out)⟩⟩
             case round =>
              clear H'
              try clear c1
              try clear c2
              try clear p2
              try clear q2
              try clear hx2
              try clear c4
              try clear c4b0
              try clear c5
              try clear c6
              try clear c6b0
              try clear p6
              try clear c7
              try clear c7b0
              try clear c13
              try clear c13b0
              try clear c15
              try clear c15b0
              try clear c17
              try clear c17b0
              try clear c17b1
              try clear c20
              try clear c23
              try clear c23b0
              try clear c23b1
              try clear hcz12_0
              try clear hcz12_1
              try clear hcz12_2
              try clear hcz12_3
              try clear hcz12_4
              try clear hcz14_0
              try clear hcz14_1
              try clear hcz14_2
              try clear hcz14_3
              try clear hcz14_4
              try clear hcz16_0
              try clear hcz16_1
              try clear hcz16_2
              try clear hcz16_3
              try clear hcz16_4
              try clear hcz18_0
              try clear hcz18_1
              try clear hcz18_2
              try clear hcz18_3
              try clear hcz18_4
              try clear hcz19_0
              try clear hcz19_1
              try clear hcz19_2
              try clear hcz19_3
              try clear hcz19_4
              try clear hcz22_0
              try clear hcz22_1
              try clear hcz22_2
              try clear hcz22_3
              try clear hcz22_4
              try clear hcz24_0
              try clear hcz24_1
              try clear hcz24_2
              try clear hcz24_3
              try clear hcz24_4
              try clear hfz12_0
              try clear hfz12_1
              try clear hfz12_2
              try clear hfz12_3
              try clear hfz12_4
              try clear hfz14_0
              try clear hfz14_1
              try clear hfz14_2
              try clear hfz14_3
              try clear hfz14_4
              try clear hfz16_0
              try clear hfz16_1
              try clear hfz16_2
              try clear hfz16_3
              try clear hfz16_4
              try clear hfz18_0
              try clear hfz18_1
              try clear hfz18_2
              try clear hfz18_3
              try clear hfz18_4
              try clear hfz19_0
              try clear hfz19_1
              try clear hfz19_2
              try clear hfz19_3
              try clear hfz19_4
              try clear hfz22_0
              try clear hfz22_1
              try clear hfz22_2
              try clear hfz22_3
              try clear hfz22_4
              try clear hfz24_0
              try clear hfz24_1
              try clear hfz24_2
              try clear hfz24_3
              try clear hfz24_4
              try clear hx287_0
              try clear hx287_1
              try clear hx287_2
              try clear hx287_3
              try clear hx287_4
              try clear p2
              try clear p287
              try clear p6
              try clear q2
              try clear q287
              obtain ⟨x8_5, x9_5, rfl, rfl, HA, HK5, HO_5, BK293, HB⟩ := hrel
              cases gk with
              | zero => exact absurd HA.out (by simp [incipitlaw7_Sort.l1])
              | succ k5 =>
               have H := HA.out
               clear HA
               simp only [incipitlaw7_Sort.l1] at H
               by_cases c25 : x9_5 < (x5_1.length : Int)
               ·rw [if_pos c25] at H
                have c25b0 : decide (x9_5 < (x5_1.length : Int)) = true := decide_eq_true c25
                clear c25
                by_cases c26 : x8_5 = true
                ·subst c26
                 have H1 : (incipitlaw7_Sort.l1 k5 l0 a1 x5_1 x6_1 true (wrap64 (x9_5 + 1)) t288 t289 t290 t291 x294004_20) = some r:=by rw [if_pos rfl] at H;exact H
                 clear H
                 have H := H1
                 clear H1
                 have H' := Aside0.mk H
                 clear H
                 obtain ⟨Ao27, co27, eo27⟩ := Kd.R_slice HO_5.out
                 subst eo27
                 go_wp2
                 repeat (go_quiet (fail); try go_wp2)
                 go_roundg k5
                 case measure=>have:=HK1.out;have:=HJ2.out;have:=HJ8.out;have:=HJ20.out;have:=HK5.out;omega
                 case rel=>exact ⟨(true),(wrap64 (x9_5 + 1)),(by first | rfl|(simp;done)|(simp [*];done)),(by first | rfl|(simp;done)|(simp [*];done)),H',⟨by have:=HK1.out;have:=HJ2.out;have:=HJ8.out;have:=HJ20.out;have:=HK5.out;omega⟩,⟨by (with_reducible repeat (first|apply Kd.R_alloc|apply Kd.R_drewN|apply Kd.R_drew));exact HO_5.out⟩,⟨by (with_reducible repeat (first|refine blk_drewN ?_ _|refine blk_drew ?_|refine blk_alloc ?_ _));exact BK293.out⟩,⟨by repeat (first|(with_reducible first|exact HB.out|apply below_alloc|apply pw_below_drewN|apply below_drew1|refine below_set ?_ GE293.out)|exact HB.out)⟩⟩
                ·replace c26 := Bool.eq_false_iff.mpr c26
                 subst c26
                 have H1 : (if 0 ≤ x9_5 then (if ((rd_T28 x5_1 x9_5).f0).toList = t288.toList then (incipitlaw7_Sort.l1 k5 l0 a1 x5_1 x6_1 (((rd_T28 x5_1 x9_5).f1) == t289) (wrap64 (x9_5 + 1)) t288 t289 t290 t291 x294004_20) else (incipitlaw7_Sort.l1 k5 l0 a1 x5_1 x6_1 false (wrap64 (x9_5 + 1)) t288 t289 t290 t291 x294004_20)) else (none)) = some r:=by rw [if_neg (show ¬ (false = true) by decide)] at H;exact H
                 clear H
                 have H := H1
                 clear H1
                 by_cases c28 : 0 ≤ x9_5
                 ·rw [if_pos c28] at H
                  have c28b0 : decide (0 ≤ x9_5) = true := decide_eq_true c28
                  clear c28
                  by_cases c29 : ((rd_T28 x5_1 x9_5).f0).toList = t288.toList
                  ·rw [if_pos c29] at H
                   have c29b0 : (((rd_T28 x5_1 x9_5).f0).toList == t288.toList) = true := beq_iff_eq.mpr c29
                   have c29b1 : (((rd_T28 x5_1 x9_5).f0).toList != t288.toList) = false := bne_eq_false_iff_eq.mpr c29
                   clear c29
                   have H' := Aside0.mk H
                   clear H
                   obtain ⟨Ao30, co30, eo30⟩ := Kd.R_slice HO_5.out
                   subst eo30
                   have p294 : 0 ≤ (x9_5 : Int) := of_decide_eq_true (by first|(with_reducible assumption) | assumption)
                   have q294 : x9_5 < (x5_1.length : Int):=of_decide_eq_true (by first|(with_reducible assumption) | assumption)
                   obtain ⟨ad294,e294,hx294_0,hx294_1,hx294_2,hx294_3,hx294_4⟩:=at_T28 (Kd.R_reads' HO_5.out).2.2 x9_5 p294 q294
                   cases e294
                   replace p294 := eq_true p294
                   replace q294 := eq_true q294
                   have hcz31_0 : wr.cell? ⟨gb293, 0, none⟩ = some (.string t288) := (blk_cell BK293.out 0).trans rfl
                   have hcz31_1 : wr.cell? ⟨gb293, 1, none⟩ = some (.int .i64 t289) := (blk_cell BK293.out 1).trans rfl
                   have hcz31_2 : wr.cell? ⟨gb293, 2, none⟩ = some (.int .i64 t290) := (blk_cell BK293.out 2).trans rfl
                   have hcz31_3 : wr.cell? ⟨gb293, 3, none⟩ = some (.string t291) := (blk_cell BK293.out 3).trans rfl
                   have hcz31_4 : wr.cell? ⟨gb293,4,none⟩ = some (.string x294004_20):=(blk_cell BK293.out 4).trans rfl
                   have hfz31_0 := blk_frozen BK293.out 0
                   have hfz31_1 := blk_frozen BK293.out 1
                   have hfz31_2 := blk_frozen BK293.out 2
                   have hfz31_3 := blk_frozen BK293.out 3
                   have hfz31_4 := blk_frozen BK293.out 4
                   have p295 : 0 ≤ (x9_5 : Int) := of_decide_eq_true (by first|(with_reducible assumption) | assumption)
                   have q295 : x9_5 < (x5_1.length : Int):=of_decide_eq_true (by first|(with_reducible assumption) | assumption)
                   obtain ⟨ad295,e295,hx295_0,hx295_1,hx295_2,hx295_3,hx295_4⟩:=at_T28 (Kd.R_reads' HO_5.out).2.2 x9_5 p295 q295
                   obtain rfl : ad294 = ad295 := (by injection e295)
                   replace p295 := eq_true p295
                   replace q295 := eq_true q295
                   go_wp2
                   repeat (go_quiet (fail); try go_wp2)
                   go_roundg k5
                   case measure=>have:=HK1.out;have:=HJ2.out;have:=HJ8.out;have:=HJ20.out;have:=HK5.out;omega
                   case rel=>exact ⟨((((rd_T28 x5_1 x9_5).f1) == t289)),(wrap64 (x9_5 + 1)),(by first | rfl|(simp;done)|(simp [*];done)),(by first | rfl|(simp;done)|(simp [*];done)),H',⟨by have:=HK1.out;have:=HJ2.out;have:=HJ8.out;have:=HJ20.out;have:=HK5.out;omega⟩,⟨by (with_reducible repeat (first|apply Kd.R_alloc|apply Kd.R_drewN|apply Kd.R_drew));exact HO_5.out⟩,⟨by (with_reducible repeat (first|refine blk_drewN ?_ _|refine blk_drew ?_|refine blk_alloc ?_ _));exact BK293.out⟩,⟨by repeat (first|(with_reducible first|exact HB.out|apply below_alloc|apply pw_below_drewN|apply below_drew1|refine below_set ?_ GE293.out)|exact HB.out)⟩⟩
                  ·rw [if_neg c29] at H
                   have c29b0 : (((rd_T28 x5_1 x9_5).f0).toList == t288.toList) = false := beq_eq_false_iff_ne.mpr c29
                   have c29b1 : (((rd_T28 x5_1 x9_5).f0).toList != t288.toList) = true := bne_iff_ne.mpr c29
                   have H' := Aside0.mk H
                   clear H
                   obtain ⟨Ao32, co32, eo32⟩ := Kd.R_slice HO_5.out
                   subst eo32
                   have p294 : 0 ≤ (x9_5 : Int) := of_decide_eq_true (by first|(with_reducible assumption) | assumption)
                   have q294 : x9_5 < (x5_1.length : Int):=of_decide_eq_true (by first|(with_reducible assumption) | assumption)
                   obtain ⟨ad294,e294,hx294_0,hx294_1,hx294_2,hx294_3,hx294_4⟩:=at_T28 (Kd.R_reads' HO_5.out).2.2 x9_5 p294 q294
                   cases e294
                   replace p294 := eq_true p294
                   replace q294 := eq_true q294
                   have hcz33_0 : wr.cell? ⟨gb293, 0, none⟩ = some (.string t288) := (blk_cell BK293.out 0).trans rfl
                   have hcz33_1 : wr.cell? ⟨gb293, 1, none⟩ = some (.int .i64 t289) := (blk_cell BK293.out 1).trans rfl
                   have hcz33_2 : wr.cell? ⟨gb293, 2, none⟩ = some (.int .i64 t290) := (blk_cell BK293.out 2).trans rfl
                   have hcz33_3 : wr.cell? ⟨gb293, 3, none⟩ = some (.string t291) := (blk_cell BK293.out 3).trans rfl
                   have hcz33_4 : wr.cell? ⟨gb293,4,none⟩ = some (.string x294004_20):=(blk_cell BK293.out 4).trans rfl
                   have hfz33_0 := blk_frozen BK293.out 0
                   have hfz33_1 := blk_frozen BK293.out 1
                   have hfz33_2 := blk_frozen BK293.out 2
                   have hfz33_3 := blk_frozen BK293.out 3
                   have hfz33_4 := blk_frozen BK293.out 4
                   go_wp2
                   repeat (go_quiet (fail); try go_wp2)
                   go_roundg k5
                   case measure=>have:=HK1.out;have:=HJ2.out;have:=HJ8.out;have:=HJ20.out;have:=HK5.out;omega
                   case rel=>exact ⟨(false),(wrap64 (x9_5 + 1)),(by first | rfl|(simp;done)|(simp [*];done)),(by first | rfl|(simp;done)|(simp [*];done)),H',⟨by have:=HK1.out;have:=HJ2.out;have:=HJ8.out;have:=HJ20.out;have:=HK5.out;omega⟩,⟨by (with_reducible repeat (first|apply Kd.R_alloc|apply Kd.R_drewN|apply Kd.R_drew));exact HO_5.out⟩,⟨by (with_reducible repeat (first|refine blk_drewN ?_ _|refine blk_drew ?_|refine blk_alloc ?_ _));exact BK293.out⟩,⟨by repeat (first|(with_reducible first|exact HB.out|apply below_alloc|apply pw_below_drewN|apply below_drew1|refine below_set ?_ GE293.out)|exact HB.out)⟩⟩
                 ·rw [if_neg c28] at H
                  exact absurd H (by simp)
               ·rw [if_neg c25] at H
                have c25b0 : decide (x9_5 < (x5_1.length : Int)) = false := decide_eq_false c25
                clear c25
                by_cases c34 : x8_5 = true
                ·subst c34
                 have H1 : (incipitlaw7_Sort.l0 k5 l0 a1 x5_1 (wrap64 (x6_1 + 1))) = some r:=by rw [if_pos rfl] at H;exact H
                 clear H
                 have H := H1
                 clear H1
                 have H' := Aside0.mk H
                 clear H
                 obtain ⟨Ao35, co35, eo35⟩ := Kd.R_slice HO_5.out
                 subst eo35
                 go_wp2
                 repeat (go_quiet (fail); try go_wp2)
                 go_roundg k5
                 case measure=>have:=HK1.out;have:=HJ2.out;have:=HJ8.out;have:=HJ20.out;have:=HK5.out;omega
                 case rel=>exact ⟨(x5_1),(wrap64 (x6_1 + 1)),(by first | rfl|(simp;done)|(simp [*];done)),H',⟨by have:=HK1.out;have:=HJ2.out;have:=HJ8.out;have:=HJ20.out;have:=HK5.out;omega⟩,⟨by (with_reducible repeat (first|apply Kd.R_alloc|apply Kd.R_drewN|apply Kd.R_drew));exact Kd.R_mono HO_5.out (fun _ hk=>trivial)⟩,⟨by repeat (first|(with_reducible first|exact HB.out|apply below_alloc|apply pw_below_drewN|apply below_drew1|refine below_set ?_ GE293.out)|exact HB.out)⟩⟩
                ·replace c34 := Bool.eq_false_iff.mpr c34
                 subst c34
                 have H1 : ((incipitref12_Into.f k5 x5_1 t288 t289 t290 t291 x294004_20).bind fun t296=>(incipitlaw7_Sort.l0 k5 l0 a1 t296 (wrap64 (x6_1 + 1)))) = some r:=by rw [if_neg (show ¬ (false = true) by decide)] at H;exact H
                 clear H
                 have H := H1
                 clear H1
                 replace H := Option.bind_eq_some_iff.mp H
                 obtain ⟨t296, A360, H⟩ := H
                 replace H : (incipitlaw7_Sort.l0 k5 l0 a1 t296 (wrap64 (x6_1 + 1))) = some r := H
                 have A36 := Aside0.mk A360
                 clear A360
                 have H' := Aside0.mk H
                 clear H
                 obtain ⟨Ao37, co37, eo37⟩ := Kd.R_slice HO_5.out
                 subst eo37
                 have hcz38_0 : wr.cell? ⟨gb293, 0, none⟩ = some (.string t288) := (blk_cell BK293.out 0).trans rfl
                 have hcz38_1 : wr.cell? ⟨gb293, 1, none⟩ = some (.int .i64 t289) := (blk_cell BK293.out 1).trans rfl
                 have hcz38_2 : wr.cell? ⟨gb293, 2, none⟩ = some (.int .i64 t290) := (blk_cell BK293.out 2).trans rfl
                 have hcz38_3 : wr.cell? ⟨gb293, 3, none⟩ = some (.string t291) := (blk_cell BK293.out 3).trans rfl
                 have hcz38_4 : wr.cell? ⟨gb293,4,none⟩ = some (.string x294004_20):=(blk_cell BK293.out 4).trans rfl
                 have hfz38_0 := blk_frozen BK293.out 0
                 have hfz38_1 := blk_frozen BK293.out 1
                 have hfz38_2 := blk_frozen BK293.out 2
                 have hfz38_3 := blk_frozen BK293.out 3
                 have hfz38_4 := blk_frozen BK293.out 4
                 go_wp2_with (first|(go_at_call 14;(with_reducible refine (incipitref12_Into.calls k5 _ _ x5_1 t288 t289 t290 t291 x294004_20 t296 _ ?side1 ?side2 A36.out).mono ?_);(case side1=>repeat (first|exact (Kd.R_reads' HO_5.out).2.2|(with_reducible refine Kd.C_alloc ?_ _)|(with_reducible refine Kd.C_drewN ?_ _)|(with_reducible refine Kd.C_drew ?_)));(case side2=>exact (Kd.R_reads' HO_5.out).2.1);rintro e w39 ⟨v297,rfl,ho0,hb⟩;have n0_:=Aside0.mk (Kd.R_elder' (by (with_reducible repeat (first|apply Kd.R_alloc|apply Kd.R_drewN|apply Kd.R_drew));exact HO_5.out) (Kd.R_base ho0) hb);have n1_:=Aside0.mk (Kd.R_lower (Kd.R_newB (Kd.R_new' ho0 (Kd.R_lt (by (with_reducible repeat (first|apply Kd.R_alloc|apply Kd.R_drewN|apply Kd.R_drew));exact HO_5.out))) (g:=gb293) (o:=.cells #[.string t288,.int .i64 t289,.int .i64 t290,.string t291,.string x294004_20] 28 (0,0)) (by (with_reducible repeat (first|refine blk_drewN ?_ _|refine blk_drew ?_|refine blk_alloc ?_ _));exact BK293.out)) (below_size (by repeat (first|(with_reducible first|exact HB.out|apply below_alloc|apply pw_below_drewN|apply below_drew1|refine below_set ?_ GE293.out)|exact HB.out))));have n2_:=Aside0.mk (blk_below (g:=gb293) (o:=.cells #[.string t288,.int .i64 t289,.int .i64 t290,.string t291,.string x294004_20] 28 (0,0)) (by (with_reducible repeat (first|refine blk_drewN ?_ _|refine blk_drew ?_|refine blk_alloc ?_ _));exact BK293.out) hb);have n3_:=Aside0.mk (below_step (by repeat (first|(with_reducible first|exact HB.out|apply below_alloc|apply pw_below_drewN|apply below_drew1|refine below_set ?_ GE293.out)|exact HB.out)) hb);clear HO_5;clear BK293;clear HB;have HO_5:=n0_;have HO298:=n1_;have BK293:=n2_;have HB:=n3_;clear n0_ n1_ n2_ n3_;(try clear hb);(try clear hb2);(try clear hk);(try clear hi);(try clear ho0)))
                 repeat (go_quiet (first|(go_at_call 14;(with_reducible refine (incipitref12_Into.calls k5 _ _ x5_1 t288 t289 t290 t291 x294004_20 t296 _ ?side1 ?side2 A36.out).mono ?_);(case side1=>repeat (first|exact (Kd.R_reads' HO_5.out).2.2|(with_reducible refine Kd.C_alloc ?_ _)|(with_reducible refine Kd.C_drewN ?_ _)|(with_reducible refine Kd.C_drew ?_)));(case side2=>exact (Kd.R_reads' HO_5.out).2.1);rintro e w39 ⟨v297,rfl,ho0,hb⟩;have n0_:=Aside0.mk (Kd.R_elder' (by (with_reducible repeat (first|apply Kd.R_alloc|apply Kd.R_drewN|apply Kd.R_drew));exact HO_5.out) (Kd.R_base ho0) hb);have n1_:=Aside0.mk (Kd.R_lower (Kd.R_newB (Kd.R_new' ho0 (Kd.R_lt (by (with_reducible repeat (first|apply Kd.R_alloc|apply Kd.R_drewN|apply Kd.R_drew));exact HO_5.out))) (g:=gb293) (o:=.cells #[.string t288,.int .i64 t289,.int .i64 t290,.string t291,.string x294004_20] 28 (0,0)) (by (with_reducible repeat (first|refine blk_drewN ?_ _|refine blk_drew ?_|refine blk_alloc ?_ _));exact BK293.out)) (below_size (by repeat (first|(with_reducible first|exact HB.out|apply below_alloc|apply pw_below_drewN|apply below_drew1|refine below_set ?_ GE293.out)|exact HB.out))));have n2_:=Aside0.mk (blk_below (g:=gb293) (o:=.cells #[.string t288,.int .i64 t289,.int .i64 t290,.string t291,.string x294004_20] 28 (0,0)) (by (with_reducible repeat (first|refine blk_drewN ?_ _|refine blk_drew ?_|refine blk_alloc ?_ _));exact BK293.out) hb);have n3_:=Aside0.mk (below_step (by repeat (first|(with_reducible first|exact HB.out|apply below_alloc|apply pw_below_drewN|apply below_drew1|refine below_set ?_ GE293.out)|exact HB.out)) hb);clear HO_5;clear BK293;clear HB;have HO_5:=n0_;have HO298:=n1_;have BK293:=n2_;have HB:=n3_;clear n0_ n1_ n2_ n3_;(try clear hb);(try clear hb2);(try clear hk);(try clear hi);(try clear ho0)));try go_wp2_with (first|(go_at_call 14;(with_reducible refine (incipitref12_Into.calls k5 _ _ x5_1 t288 t289 t290 t291 x294004_20 t296 _ ?side1 ?side2 A36.out).mono ?_);(case side1=>repeat (first|exact (Kd.R_reads' HO_5.out).2.2|(with_reducible refine Kd.C_alloc ?_ _)|(with_reducible refine Kd.C_drewN ?_ _)|(with_reducible refine Kd.C_drew ?_)));(case side2=>exact (Kd.R_reads' HO_5.out).2.1);rintro e w39 ⟨v297,rfl,ho0,hb⟩;have n0_:=Aside0.mk (Kd.R_elder' (by (with_reducible repeat (first|apply Kd.R_alloc|apply Kd.R_drewN|apply Kd.R_drew));exact HO_5.out) (Kd.R_base ho0) hb);have n1_:=Aside0.mk (Kd.R_lower (Kd.R_newB (Kd.R_new' ho0 (Kd.R_lt (by (with_reducible repeat (first|apply Kd.R_alloc|apply Kd.R_drewN|apply Kd.R_drew));exact HO_5.out))) (g:=gb293) (o:=.cells #[.string t288,.int .i64 t289,.int .i64 t290,.string t291,.string x294004_20] 28 (0,0)) (by (with_reducible repeat (first|refine blk_drewN ?_ _|refine blk_drew ?_|refine blk_alloc ?_ _));exact BK293.out)) (below_size (by repeat (first|(with_reducible first|exact HB.out|apply below_alloc|apply pw_below_drewN|apply below_drew1|refine below_set ?_ GE293.out)|exact HB.out))));have n2_:=Aside0.mk (blk_below (g:=gb293) (o:=.cells #[.string t288,.int .i64 t289,.int .i64 t290,.string t291,.string x294004_20] 28 (0,0)) (by (with_reducible repeat (first|refine blk_drewN ?_ _|refine blk_drew ?_|refine blk_alloc ?_ _));exact BK293.out) hb);have n3_:=Aside0.mk (below_step (by repeat (first|(with_reducible first|exact HB.out|apply below_alloc|apply pw_below_drewN|apply below_drew1|refine below_set ?_ GE293.out)|exact HB.out)) hb);clear HO_5;clear BK293;clear HB;have HO_5:=n0_;have HO298:=n1_;have BK293:=n2_;have HB:=n3_;clear n0_ n1_ n2_ n3_;(try clear hb);(try clear hb2);(try clear hk);(try clear hi);(try clear ho0))))
                 go_roundg k5
                 case measure=>have:=HK1.out;have:=HJ2.out;have:=HJ8.out;have:=HJ20.out;have:=HK5.out;omega
                 case rel=>exact ⟨(t296),(wrap64 (x6_1 + 1)),(by first | rfl|(simp;done)|(simp [*];done)),H',⟨by have:=HK1.out;have:=HJ2.out;have:=HJ8.out;have:=HJ20.out;have:=HK5.out;omega⟩,⟨by (with_reducible repeat (first|apply Kd.R_alloc|apply Kd.R_drewN|apply Kd.R_drew));exact Kd.R_mono HO298.out (fun _ hk=>trivial)⟩,⟨by repeat (first|(with_reducible first|exact HB.out|apply below_alloc|apply pw_below_drewN|apply below_drew1|refine below_set ?_ GE293.out)|exact HB.out)⟩⟩
       ·rw [if_neg c7] at H
        exact absurd H (by simp)
      ·rw [if_neg c6] at H
       exact absurd H (by simp)
     ·replace c5 := Bool.eq_false_iff.mpr c5
      subst c5
      have H1 : (some x5_1) = some r := by rw [if_neg (show ¬ (false = true) by decide)] at H; exact H
      clear H
      have H := H1
      clear H1
      obtain rfl := Option.some.inj H
      simp only [Option.some.injEq, Prod.mk.injEq] at H
      obtain ⟨rfl⟩ := H
      go_wp2
      repeat (go_quiet (fail); try go_wp2)
      go_ret
      exact ⟨_,by first | rfl|(simp [errW_none,errW_some] <;> rfl)|(simp [*,errW_none,errW_some] <;> rfl),by (with_reducible repeat (first|apply Kd.R_alloc|apply Kd.R_drewN|apply Kd.R_drew));exact HO_5.out,by repeat (first|(with_reducible first|exact HB.out|apply below_alloc|apply pw_below_drewN|apply below_drew1)|exact HB.out)⟩

end Go.Proofs.Ytenmljkddhonmaa.MTbl

-- Written by a program of this session for this claim (out of the translation's print); Lean checks it.
namespace Go.Proofs.Ytenmljkddhonmaa.MTbl
open Go.RowKit Go.Proofs.YtenmljkddhonmaaW.PrintWords Go.Proofs.YtenmljkddhonmaaW.PrintLast Go.Proofs.YtenmljkddhonmaaW.PrintMore
attribute [local go_sem] max2_int min2_int max_two min_two max_three min_three max_four min_four   -- for this text's walks alone
set_option linter.unusedVariables false
set_option linter.unusedSimpArgs false

/-! ### incipitlaw17_weigh: function 30 -/
def incipitlaw17_weigh.l0 : Nat → List (S28) → Int → Int → Option (Int)
 | 0, _, _, _ => none
 | k + 1,x0,x3,x4=>if x4 < (x0.length : Int) then (if 0 ≤ x4 then (incipitlaw17_weigh.l0 k x0 (wrap64 (x3 + (wrap64 ((wrap64 ((((rd_T28 x0 x4).f0).size : Int) + (((rd_T28 x0 x4).f3).size : Int))) + (((rd_T28 x0 x4).f4).size : Int))))) (wrap64 (x4 + 1))) else (none)) else (some x3)
def incipitlaw17_weigh.f (k : Nat) (l0 : List (S28)) : Option (Int) := incipitlaw17_weigh.l0 k l0 0 0
theorem incipitlaw17_weigh.mono_l : ∀ k,(∀ y0 y1 y2,LeO (incipitlaw17_weigh.l0 k y0 y1 y2) (incipitlaw17_weigh.l0 (k + 1) y0 y1 y2))
 | 0 => fun _ _ _ r h => by simp [incipitlaw17_weigh.l0] at h
 | k + 1 => by
  have ih0 := incipitlaw17_weigh.mono_l k
  ·intro y0 y1 y2
   unfold incipitlaw17_weigh.l0
   repeat' first
  |(with_reducible exact ih0 _ _ _)
  |(with_reducible exact LeO.refl _)
  |(with_reducible exact LeO.none _)
  |(with_reducible refine LeO.ite ?_ ?_)
  |(with_reducible refine LeO.bind ?_ (fun _ => ?_))
  |exact ih0 _ _ _
  |exact LeO.none _
  |refine LeO.ite ?_ ?_
  |refine LeO.bind ?_ (fun _ => ?_)
theorem incipitlaw17_weigh.mono : ∀ a0 k, LeO (incipitlaw17_weigh.f k a0) (incipitlaw17_weigh.f (k + 1) a0) := by
 intro a0 k
 have ih0 := incipitlaw17_weigh.mono_l k
 unfold incipitlaw17_weigh.f
 repeat' first
  |(with_reducible exact ih0 _ _ _)
  |(with_reducible exact LeO.refl _)
  |(with_reducible exact LeO.none _)
  |(with_reducible refine LeO.ite ?_ ?_)
  |(with_reducible refine LeO.bind ?_ (fun _ => ?_))
  |exact ih0 _ _ _
  |exact LeO.none _
  |refine LeO.ite ?_ ?_
  |refine LeO.bind ?_ (fun _ => ?_)
set_option maxHeartbeats 80000000 in
set_option maxRecDepth 100000 in
theorem incipitlaw17_weigh.calls (k : Nat) (A0 : Option Addr) (c0 : Nat) (l0 : List (S28)) (r : Int) (w : World) (hr0 : Kd.C k28 w A0 l0.length l0) (hc0 : l0.length ≤ c0) (h : incipitlaw17_weigh.f k l0 = some r) :
  Calls Try.prog 30 #[.slice A0 l0.length c0] w fun e w' => e = .returned (.int .i64 r) ∧ Drawn0 w w' := by
 have HR0 := Aside0.mk hr0
 have HC0 := Aside0.mk hc0
 clear hr0 hc0
 have H : (incipitlaw17_weigh.l0 k l0 0 0) = some r := h
 clear h
 have H' := Aside0.mk H
 clear H
 go_enter Try.func30, Try.ntmps30
 go_wp2
 repeat (go_quiet (fail); try go_wp2)
 go_loopg [3,4] k (fun kq v3 v4 w'=>∃ (x3_1 : Int) (x4_1 : Int),v3 = .int .i64 x3_1∧v4 = .int .i64 x4_1∧Aside0 (incipitlaw17_weigh.l0 kq l0 x3_1 x4_1 = some r)∧Aside0 (kq ≤ k)∧Drawn0 w w')
 case atStart=>exact ⟨(0),(0),(by first | rfl|(simp;done)|(simp [*];done)),(by first | rfl|(simp;done)|(simp [*];done)),H',⟨Nat.le_refl _⟩,by repeat (first|exact Drawn0.refl _|apply Drawn0.step)⟩
 case round =>
  clear H'
  obtain ⟨x3_1, x4_1, rfl, rfl, HA, HK1, ⟨m1, rfl⟩⟩ := hrel
  cases gk with
  | zero => exact absurd HA.out (by simp [incipitlaw17_weigh.l0])
  | succ k1 =>
   have H := HA.out
   clear HA
   simp only [incipitlaw17_weigh.l0] at H
   by_cases c2 : x4_1 < (l0.length : Int)
   ·rw [if_pos c2] at H
    have c2b0 : decide (x4_1 < (l0.length : Int)) = true := decide_eq_true c2
    clear c2
    by_cases c3 : 0 ≤ x4_1
    ·rw [if_pos c3] at H
     have c3b0 : decide (0 ≤ x4_1) = true := decide_eq_true c3
     clear c3
     have H' := Aside0.mk H
     clear H
     have p299 : 0 ≤ (x4_1 : Int) := of_decide_eq_true (by first|(with_reducible assumption) | assumption)
     have q299 : x4_1 < (l0.length : Int) := of_decide_eq_true (by first|(with_reducible assumption) | assumption)
     obtain ⟨ad299, e299, hx299_0, hx299_1, hx299_2, hx299_3, hx299_4⟩ := at_T28 HR0.out x4_1 p299 q299
     cases e299
     replace p299 := eq_true p299
     replace q299 := eq_true q299
     have p300 : 0 ≤ (x4_1 : Int) := of_decide_eq_true (by first|(with_reducible assumption) | assumption)
     have q300 : x4_1 < (l0.length : Int) := of_decide_eq_true (by first|(with_reducible assumption) | assumption)
     obtain ⟨ad300, e300, hx300_0, hx300_1, hx300_2, hx300_3, hx300_4⟩ := at_T28 HR0.out x4_1 p300 q300
     obtain rfl : ad299 = ad300 := (by injection e300)
     replace p300 := eq_true p300
     replace q300 := eq_true q300
     have p301 : 0 ≤ (x4_1 : Int) := of_decide_eq_true (by first|(with_reducible assumption) | assumption)
     have q301 : x4_1 < (l0.length : Int) := of_decide_eq_true (by first|(with_reducible assumption) | assumption)
     obtain ⟨ad301, e301, hx301_0, hx301_1, hx301_2, hx301_3, hx301_4⟩ := at_T28 HR0.out x4_1 p301 q301
     obtain rfl : ad299 = ad301 := (by injection e301)
     replace p301 := eq_true p301
     replace q301 := eq_true q301
     go_wp2
     repeat (go_quiet (fail); try go_wp2)
     go_roundg k1
     case measure => have := HK1.out; omega
     case rel=>exact ⟨(wrap64 (x3_1 + (wrap64 ((wrap64 ((((rd_T28 l0 x4_1).f0).size : Int) + (((rd_T28 l0 x4_1).f3).size : Int))) + (((rd_T28 l0 x4_1).f4).size : Int))))),(wrap64 (x4_1 + 1)),(by first | rfl|(simp;done)|(simp [*];done)),(by first | rfl|(simp;done)|(simp [*];done)),H',⟨by have:=HK1.out;omega⟩,by repeat (first|exact Drawn0.refl _|apply Drawn0.step)⟩
    ·rw [if_neg c3] at H
     exact absurd H (by simp)
   ·rw [if_neg c2] at H
    have c2b0 : decide (x4_1 < (l0.length : Int)) = false := decide_eq_false c2
    clear c2
    obtain rfl := Option.some.inj H
    simp only [Option.some.injEq, Prod.mk.injEq] at H
    obtain ⟨rfl⟩ := H
    go_wp2
    repeat (go_quiet (fail); try go_wp2)
    go_ret
    exact ⟨by first | rfl|(simp; done)|(simp [*]; done), by repeat (first|exact Drawn0.refl _|apply Drawn0.step)⟩

-- NOT PRINTED: function 31 (table_Table_All)

/-! ### incipitref12_Find: function 64 -/
def incipitref12_Find.l0 : Nat → List (S28) → ByteArray → Int → Int → Option (ByteArray × Int × Int × ByteArray × ByteArray × Bool)
 | 0, _, _, _, _ => none
 | k + 1,x0,x1,x2,x8=>if x8 < (x0.length : Int) then (if 0 ≤ x8 then (if ((rd_T28 x0 x8).f0).toList = x1.toList then (if ((rd_T28 x0 x8).f1) ≤ x2 then (some ((rd_T28 x0 x8).f0,(rd_T28 x0 x8).f1,(rd_T28 x0 x8).f2,(rd_T28 x0 x8).f3,(rd_T28 x0 x8).f4,true)) else (incipitref12_Find.l0 k x0 x1 x2 (wrap64 (x8 + 1)))) else (incipitref12_Find.l0 k x0 x1 x2 (wrap64 (x8 + 1)))) else (none)) else (some ((⟨#[]⟩ : ByteArray),0,0,(⟨#[]⟩ : ByteArray),(⟨#[]⟩ : ByteArray),false))
def incipitref12_Find.f (k : Nat) (l0 : List (S28)) (a1 : ByteArray) (a2 : Int) : Option (ByteArray × Int × Int × ByteArray × ByteArray × Bool):=incipitref12_Find.l0 k l0 a1 a2 0
theorem incipitref12_Find.mono_l : ∀ k,(∀ y0 y1 y2 y3,LeO (incipitref12_Find.l0 k y0 y1 y2 y3) (incipitref12_Find.l0 (k + 1) y0 y1 y2 y3))
 | 0 => fun _ _ _ _ r h => by simp [incipitref12_Find.l0] at h
 | k + 1 => by
  have ih0 := incipitref12_Find.mono_l k
  ·intro y0 y1 y2 y3
   unfold incipitref12_Find.l0
   repeat' first
  |(with_reducible exact ih0 _ _ _ _)
  |(with_reducible exact LeO.refl _)
  |(with_reducible exact LeO.none _)
  |(with_reducible refine LeO.ite ?_ ?_)
  |(with_reducible refine LeO.bind ?_ (fun _ => ?_))
  |exact ih0 _ _ _ _
  |exact LeO.none _
  |refine LeO.ite ?_ ?_
  |refine LeO.bind ?_ (fun _ => ?_)
theorem incipitref12_Find.mono : ∀ a0 a1 a2 k,LeO (incipitref12_Find.f k a0 a1 a2) (incipitref12_Find.f (k + 1) a0 a1 a2):=by
 intro a0 a1 a2 k
 have ih0 := incipitref12_Find.mono_l k
 unfold incipitref12_Find.f
 repeat' first
  |(with_reducible exact ih0 _ _ _ _)
  |(with_reducible exact LeO.refl _)
  |(with_reducible exact LeO.none _)
  |(with_reducible refine LeO.ite ?_ ?_)
  |(with_reducible refine LeO.bind ?_ (fun _ => ?_))
  |exact ih0 _ _ _ _
  |exact LeO.none _
  |refine LeO.ite ?_ ?_
  |refine LeO.bind ?_ (fun _ => ?_)
set_option maxHeartbeats 80000000 in
set_option maxRecDepth 100000 in
theorem incipitref12_Find.calls (k : Nat) (A0 : Option Addr) (c0 : Nat) (l0 : List (S28)) (a1 : ByteArray) (a2 : Int) (r1 : ByteArray) (r2 : Int) (r3 : Int) (r4 : ByteArray) (r5 : ByteArray) (r6 : Bool) (w : World) (hr0 : Kd.C k28 w A0 l0.length l0) (hc0 : l0.length ≤ c0) (h : incipitref12_Find.f k l0 a1 a2 = some (r1,r2,r3,r4,r5,r6)) :
  Calls Try.prog 64 #[.slice A0 l0.length c0,.string a1,.int .i64 a2] w fun e w'=>e = .returned (.tuple #[.agg #[.string r1,.int .i64 r2,.int .i64 r3,.string r4,.string r5],.bool r6])∧Below w.heap.size w w':=by
 have hu28 := Try.underlying28
 have HR0 := Aside0.mk hr0
 have HC0 := Aside0.mk hc0
 clear hr0 hc0
 have HB := Aside0.mk (Below.refl w.heap.size w)
 have H : (incipitref12_Find.l0 k l0 a1 a2 0) = some (r1, r2, r3, r4, r5, r6) := h
 clear h
 have H' := Aside0.mk H
 clear H
 go_enter Try.func64, Try.ntmps64
 go_wp2_with (first|((with_reducible refine gate_dst (N:=6) rfl ?_);refine box_event ?hg (N:=6) ?hd (cs:=#[.string (⟨#[]⟩ : ByteArray),.int .i64 0,.int .i64 0,.string (⟨#[]⟩ : ByteArray),.string (⟨#[]⟩ : ByteArray)]) (t:=28) ?hr ?_;(case hd=>rfl);(case hg=>rfl);(case hr=>first|(go_simp;done)|(go_simp;rfl));intro gb302 hg w4 hbox hb;have n0_:=Aside0.mk (below_step (by repeat (first|(with_reducible first|exact HB.out|apply below_alloc|apply pw_below_drewN|apply below_drew1)|exact HB.out)) hb);have n1_:=Aside0.mk (hbox);have n2_:=Aside0.mk ((by rw [hg];exact (below_size (by repeat (first|(with_reducible first|exact HB.out|apply below_alloc|apply pw_below_drewN|apply below_drew1)|exact HB.out))) : w.heap.size ≤ gb302));have n3_:=Aside0.mk ((by rw [hg];exact (below_size (by repeat (first|(with_reducible first|exact HB.out|apply below_alloc|apply pw_below_drewN|apply below_drew1)|exact HB.out))) : w.heap.size ≤ gb302));clear HB;have HB:=n0_;have BK302:=n1_;have GW302:=n2_;have GE302:=n3_;clear n0_ n1_ n2_ n3_;clear hb hbox hg))
 go_loopg [8] k (fun kq v8 w'=>∃ (x8_1 : Int) (x303000_1 : ByteArray) (x303001_1 : Int) (x303002_1 : Int) (x303003_1 : ByteArray) (x303004_1 : ByteArray),v8 = .int .i64 x8_1∧Aside0 (incipitref12_Find.l0 kq l0 a1 a2 x8_1 = some (r1,r2,r3,r4,r5,r6))∧Aside0 (kq ≤ k)∧Aside0 (w'.heap[gb302]? = some (.cells #[.string x303000_1,.int .i64 x303001_1,.int .i64 x303002_1,.string x303003_1,.string x303004_1] 28 (0,0)))∧Aside0 (Below w.heap.size w w'))
 case atStart=>exact ⟨(0),((⟨#[]⟩ : ByteArray)),(0),(0),((⟨#[]⟩ : ByteArray)),((⟨#[]⟩ : ByteArray)),(by first | rfl|(simp;done)|(simp [*];done)),H',⟨Nat.le_refl _⟩,⟨by (with_reducible repeat (first|refine blk_drewN ?_ _|refine blk_drew ?_|refine blk_alloc ?_ _));exact BK302.out⟩,⟨by repeat (first|(with_reducible first|exact HB.out|apply below_alloc|apply pw_below_drewN|apply below_drew1|refine below_set ?_ GE302.out)|exact HB.out)⟩⟩
 case round =>
  clear H'
  try clear p2
  obtain ⟨x8_1, x303000_1, x303001_1, x303002_1, x303003_1, x303004_1, rfl, HA, HK1, BK302, HB⟩ := hrel
  cases gk with
  | zero => exact absurd HA.out (by simp [incipitref12_Find.l0])
  | succ k1 =>
   have H := HA.out
   clear HA
   simp only [incipitref12_Find.l0] at H
   by_cases c5 : x8_1 < (l0.length : Int)
   ·rw [if_pos c5] at H
    have c5b0 : decide (x8_1 < (l0.length : Int)) = true := decide_eq_true c5
    clear c5
    by_cases c6 : 0 ≤ x8_1
    ·rw [if_pos c6] at H
     have c6b0 : decide (0 ≤ x8_1) = true := decide_eq_true c6
     clear c6
     by_cases c7 : ((rd_T28 l0 x8_1).f0).toList = a1.toList
     ·rw [if_pos c7] at H
      have c7b0 : (((rd_T28 l0 x8_1).f0).toList == a1.toList) = true := beq_iff_eq.mpr c7
      have c7b1 : (((rd_T28 l0 x8_1).f0).toList != a1.toList) = false := bne_eq_false_iff_eq.mpr c7
      clear c7
      by_cases c8 : ((rd_T28 l0 x8_1).f1) ≤ a2
      ·rw [if_pos c8] at H
       have c8b0 : decide (((rd_T28 l0 x8_1).f1) ≤ a2) = true := decide_eq_true c8
       clear c8
       simp only [Option.some.injEq, Prod.mk.injEq] at H
       obtain ⟨rfl, rfl, rfl, rfl, rfl, rfl⟩ := H
       have p303 : 0 ≤ (x8_1 : Int) := of_decide_eq_true (by first|(with_reducible assumption) | assumption)
       have q303 : x8_1 < (l0.length : Int) := of_decide_eq_true (by first|(with_reducible assumption) | assumption)
       obtain ⟨ad303, e303, hx303_0, hx303_1, hx303_2, hx303_3, hx303_4⟩ := at_T28 HR0.out x8_1 p303 q303
       cases e303
       replace hx303_0 := (HB.out.cell (World.block_lt_of_cell? w _ hx303_0)).trans hx303_0
       replace hx303_1 := (HB.out.cell (World.block_lt_of_cell? w _ hx303_1)).trans hx303_1
       replace hx303_2 := (HB.out.cell (World.block_lt_of_cell? w _ hx303_2)).trans hx303_2
       replace hx303_3 := (HB.out.cell (World.block_lt_of_cell? w _ hx303_3)).trans hx303_3
       replace hx303_4 := (HB.out.cell (World.block_lt_of_cell? w _ hx303_4)).trans hx303_4
       replace p303 := eq_true p303
       replace q303 := eq_true q303
       have p304 : 0 ≤ (x8_1 : Int) := of_decide_eq_true (by first|(with_reducible assumption) | assumption)
       have q304 : x8_1 < (l0.length : Int) := of_decide_eq_true (by first|(with_reducible assumption) | assumption)
       obtain ⟨ad304, e304, hx304_0, hx304_1, hx304_2, hx304_3, hx304_4⟩ := at_T28 HR0.out x8_1 p304 q304
       obtain rfl : ad303 = ad304 := (by injection e304)
       replace hx304_0 := (HB.out.cell (World.block_lt_of_cell? w _ hx304_0)).trans hx304_0
       replace hx304_1 := (HB.out.cell (World.block_lt_of_cell? w _ hx304_1)).trans hx304_1
       replace hx304_2 := (HB.out.cell (World.block_lt_of_cell? w _ hx304_2)).trans hx304_2
       replace hx304_3 := (HB.out.cell (World.block_lt_of_cell? w _ hx304_3)).trans hx304_3
       replace hx304_4 := (HB.out.cell (World.block_lt_of_cell? w _ hx304_4)).trans hx304_4
       replace p304 := eq_true p304
       replace q304 := eq_true q304
       have p305 : 0 ≤ (x8_1 : Int) := of_decide_eq_true (by first|(with_reducible assumption) | assumption)
       have q305 : x8_1 < (l0.length : Int) := of_decide_eq_true (by first|(with_reducible assumption) | assumption)
       obtain ⟨ad305, e305, hx305_0, hx305_1, hx305_2, hx305_3, hx305_4⟩ := at_T28 HR0.out x8_1 p305 q305
       obtain rfl : ad303 = ad305 := (by injection e305)
       replace hx305_0 := (HB.out.cell (World.block_lt_of_cell? w _ hx305_0)).trans hx305_0
       replace hx305_1 := (HB.out.cell (World.block_lt_of_cell? w _ hx305_1)).trans hx305_1
       replace hx305_2 := (HB.out.cell (World.block_lt_of_cell? w _ hx305_2)).trans hx305_2
       replace hx305_3 := (HB.out.cell (World.block_lt_of_cell? w _ hx305_3)).trans hx305_3
       replace hx305_4 := (HB.out.cell (World.block_lt_of_cell? w _ hx305_4)).trans hx305_4
       replace p305 := eq_true p305
       replace q305 := eq_true q305
       have hcz9_0 : wr.cell? ⟨gb302, 0, none⟩ = some (.string x303000_1) := (blk_cell BK302.out 0).trans rfl
       have hcz9_1 : wr.cell? ⟨gb302, 1, none⟩ = some (.int .i64 x303001_1) := (blk_cell BK302.out 1).trans rfl
       have hcz9_2 : wr.cell? ⟨gb302, 2, none⟩ = some (.int .i64 x303002_1) := (blk_cell BK302.out 2).trans rfl
       have hcz9_3 : wr.cell? ⟨gb302, 3, none⟩ = some (.string x303003_1) := (blk_cell BK302.out 3).trans rfl
       have hcz9_4 : wr.cell? ⟨gb302, 4, none⟩ = some (.string x303004_1) := (blk_cell BK302.out 4).trans rfl
       have hfz9_0 := blk_frozen BK302.out 0
       have hfz9_1 := blk_frozen BK302.out 1
       have hfz9_2 := blk_frozen BK302.out 2
       have hfz9_3 := blk_frozen BK302.out 3
       have hfz9_4 := blk_frozen BK302.out 4
       go_wp2
       refine bodyPost_ret (results_ct rfl _ _ gb302 28 #[.string ((rd_T28 l0 x8_1).f0),.int .i64 ((rd_T28 l0 x8_1).f1),.int .i64 ((rd_T28 l0 x8_1).f2),.string ((rd_T28 l0 x8_1).f3),.string ((rd_T28 l0 x8_1).f4)] (0,0) _ rfl (by (with_reducible repeat (first|refine blk_drewN ?_ _|refine blk_drew ?_|refine blk_alloc ?_ _));refine blk_put (cs:=#[.string ((rd_T28 l0 x8_1).f0),.int .i64 ((rd_T28 l0 x8_1).f1),.int .i64 ((rd_T28 l0 x8_1).f2),.string ((rd_T28 l0 x8_1).f3),.string x303004_1]) ?_ 4 _ rfl;(with_reducible repeat (first|refine blk_drewN ?_ _|refine blk_drew ?_|refine blk_alloc ?_ _));refine blk_put (cs:=#[.string ((rd_T28 l0 x8_1).f0),.int .i64 ((rd_T28 l0 x8_1).f1),.int .i64 ((rd_T28 l0 x8_1).f2),.string x303003_1,.string x303004_1]) ?_ 3 _ rfl;(with_reducible repeat (first|refine blk_drewN ?_ _|refine blk_drew ?_|refine blk_alloc ?_ _));refine blk_put (cs:=#[.string ((rd_T28 l0 x8_1).f0),.int .i64 ((rd_T28 l0 x8_1).f1),.int .i64 x303002_1,.string x303003_1,.string x303004_1]) ?_ 2 _ rfl;(with_reducible repeat (first|refine blk_drewN ?_ _|refine blk_drew ?_|refine blk_alloc ?_ _));refine blk_put (cs:=#[.string ((rd_T28 l0 x8_1).f0),.int .i64 x303001_1,.int .i64 x303002_1,.string x303003_1,.string x303004_1]) ?_ 1 _ rfl;(with_reducible repeat (first|refine blk_drewN ?_ _|refine blk_drew ?_|refine blk_alloc ?_ _));refine blk_put (cs:=#[.string x303000_1,.int .i64 x303001_1,.int .i64 x303002_1,.string x303003_1,.string x303004_1]) ?_ 0 _ rfl;(with_reducible repeat (first|refine blk_drewN ?_ _|refine blk_drew ?_|refine blk_alloc ?_ _));exact BK302.out) Try.underlying28 rfl (by kernel_rfl)) rfl ?_
       exact ⟨by first | rfl|(simp [errW_none,errW_some] <;> rfl)|(simp [*,errW_none,errW_some] <;> rfl),by repeat (first|(with_reducible first|exact HB.out|apply below_alloc|apply pw_below_drewN|apply below_drew1|refine below_set ?_ GE302.out)|exact HB.out)⟩
      ·rw [if_neg c8] at H
       have c8b0 : decide (((rd_T28 l0 x8_1).f1) ≤ a2) = false := decide_eq_false c8
       clear c8
       have H' := Aside0.mk H
       clear H
       have p303 : 0 ≤ (x8_1 : Int) := of_decide_eq_true (by first|(with_reducible assumption) | assumption)
       have q303 : x8_1 < (l0.length : Int) := of_decide_eq_true (by first|(with_reducible assumption) | assumption)
       obtain ⟨ad303, e303, hx303_0, hx303_1, hx303_2, hx303_3, hx303_4⟩ := at_T28 HR0.out x8_1 p303 q303
       cases e303
       replace hx303_0 := (HB.out.cell (World.block_lt_of_cell? w _ hx303_0)).trans hx303_0
       replace hx303_1 := (HB.out.cell (World.block_lt_of_cell? w _ hx303_1)).trans hx303_1
       replace hx303_2 := (HB.out.cell (World.block_lt_of_cell? w _ hx303_2)).trans hx303_2
       replace hx303_3 := (HB.out.cell (World.block_lt_of_cell? w _ hx303_3)).trans hx303_3
       replace hx303_4 := (HB.out.cell (World.block_lt_of_cell? w _ hx303_4)).trans hx303_4
       replace p303 := eq_true p303
       replace q303 := eq_true q303
       have p304 : 0 ≤ (x8_1 : Int) := of_decide_eq_true (by first|(with_reducible assumption) | assumption)
       have q304 : x8_1 < (l0.length : Int) := of_decide_eq_true (by first|(with_reducible assumption) | assumption)
       obtain ⟨ad304, e304, hx304_0, hx304_1, hx304_2, hx304_3, hx304_4⟩ := at_T28 HR0.out x8_1 p304 q304
       obtain rfl : ad303 = ad304 := (by injection e304)
       replace hx304_0 := (HB.out.cell (World.block_lt_of_cell? w _ hx304_0)).trans hx304_0
       replace hx304_1 := (HB.out.cell (World.block_lt_of_cell? w _ hx304_1)).trans hx304_1
       replace hx304_2 := (HB.out.cell (World.block_lt_of_cell? w _ hx304_2)).trans hx304_2
       replace hx304_3 := (HB.out.cell (World.block_lt_of_cell? w _ hx304_3)).trans hx304_3
       replace hx304_4 := (HB.out.cell (World.block_lt_of_cell? w _ hx304_4)).trans hx304_4
       replace p304 := eq_true p304
       replace q304 := eq_true q304
       go_wp2
       go_roundg k1
       case measure => have := HK1.out; omega
       case rel=>exact ⟨(wrap64 (x8_1 + 1)),(x303000_1),(x303001_1),(x303002_1),(x303003_1),(x303004_1),(by first | rfl|(simp;done)|(simp [*];done)),H',⟨by have:=HK1.out;omega⟩,⟨by (with_reducible repeat (first|refine blk_drewN ?_ _|refine blk_drew ?_|refine blk_alloc ?_ _));exact BK302.out⟩,⟨by repeat (first|(with_reducible first|exact HB.out|apply below_alloc|apply pw_below_drewN|apply below_drew1|refine below_set ?_ GE302.out)|exact HB.out)⟩⟩
     ·rw [if_neg c7] at H
      have c7b0 : (((rd_T28 l0 x8_1).f0).toList == a1.toList) = false := beq_eq_false_iff_ne.mpr c7
      have c7b1 : (((rd_T28 l0 x8_1).f0).toList != a1.toList) = true := bne_iff_ne.mpr c7
      have H' := Aside0.mk H
      clear H
      have p303 : 0 ≤ (x8_1 : Int) := of_decide_eq_true (by first|(with_reducible assumption) | assumption)
      have q303 : x8_1 < (l0.length : Int) := of_decide_eq_true (by first|(with_reducible assumption) | assumption)
      obtain ⟨ad303, e303, hx303_0, hx303_1, hx303_2, hx303_3, hx303_4⟩ := at_T28 HR0.out x8_1 p303 q303
      cases e303
      replace hx303_0 := (HB.out.cell (World.block_lt_of_cell? w _ hx303_0)).trans hx303_0
      replace hx303_1 := (HB.out.cell (World.block_lt_of_cell? w _ hx303_1)).trans hx303_1
      replace hx303_2 := (HB.out.cell (World.block_lt_of_cell? w _ hx303_2)).trans hx303_2
      replace hx303_3 := (HB.out.cell (World.block_lt_of_cell? w _ hx303_3)).trans hx303_3
      replace hx303_4 := (HB.out.cell (World.block_lt_of_cell? w _ hx303_4)).trans hx303_4
      replace p303 := eq_true p303
      replace q303 := eq_true q303
      go_wp2
      go_roundg k1
      case measure => have := HK1.out; omega
      case rel=>exact ⟨(wrap64 (x8_1 + 1)),(x303000_1),(x303001_1),(x303002_1),(x303003_1),(x303004_1),(by first | rfl|(simp;done)|(simp [*];done)),H',⟨by have:=HK1.out;omega⟩,⟨by (with_reducible repeat (first|refine blk_drewN ?_ _|refine blk_drew ?_|refine blk_alloc ?_ _));exact BK302.out⟩,⟨by repeat (first|(with_reducible first|exact HB.out|apply below_alloc|apply pw_below_drewN|apply below_drew1|refine below_set ?_ GE302.out)|exact HB.out)⟩⟩
    ·rw [if_neg c6] at H
     exact absurd H (by simp)
   ·rw [if_neg c5] at H
    have c5b0 : decide (x8_1 < (l0.length : Int)) = false := decide_eq_false c5
    clear c5
    simp only [Option.some.injEq, Prod.mk.injEq] at H
    obtain ⟨rfl, rfl, rfl, rfl, rfl, rfl⟩ := H
    have hcz10_0 : wr.cell? ⟨gb302, 0, none⟩ = some (.string x303000_1) := (blk_cell BK302.out 0).trans rfl
    have hcz10_1 : wr.cell? ⟨gb302, 1, none⟩ = some (.int .i64 x303001_1) := (blk_cell BK302.out 1).trans rfl
    have hcz10_2 : wr.cell? ⟨gb302, 2, none⟩ = some (.int .i64 x303002_1) := (blk_cell BK302.out 2).trans rfl
    have hcz10_3 : wr.cell? ⟨gb302, 3, none⟩ = some (.string x303003_1) := (blk_cell BK302.out 3).trans rfl
    have hcz10_4 : wr.cell? ⟨gb302, 4, none⟩ = some (.string x303004_1) := (blk_cell BK302.out 4).trans rfl
    have hfz10_0 := blk_frozen BK302.out 0
    have hfz10_1 := blk_frozen BK302.out 1
    have hfz10_2 := blk_frozen BK302.out 2
    have hfz10_3 := blk_frozen BK302.out 3
    have hfz10_4 := blk_frozen BK302.out 4
    go_wp2
    refine bodyPost_ret (results_ct rfl _ _ gb302 28 #[.string (⟨#[]⟩ : ByteArray),.int .i64 0,.int .i64 0,.string (⟨#[]⟩ : ByteArray),.string (⟨#[]⟩ : ByteArray)] (0,0) _ rfl (by (with_reducible repeat (first|refine blk_drewN ?_ _|refine blk_drew ?_|refine blk_alloc ?_ _));refine blk_put (cs:=#[.string (⟨#[]⟩ : ByteArray),.int .i64 0,.int .i64 0,.string (⟨#[]⟩ : ByteArray),.string x303004_1]) ?_ 4 _ rfl;(with_reducible repeat (first|refine blk_drewN ?_ _|refine blk_drew ?_|refine blk_alloc ?_ _));refine blk_put (cs:=#[.string (⟨#[]⟩ : ByteArray),.int .i64 0,.int .i64 0,.string x303003_1,.string x303004_1]) ?_ 3 _ rfl;(with_reducible repeat (first|refine blk_drewN ?_ _|refine blk_drew ?_|refine blk_alloc ?_ _));refine blk_put (cs:=#[.string (⟨#[]⟩ : ByteArray),.int .i64 0,.int .i64 x303002_1,.string x303003_1,.string x303004_1]) ?_ 2 _ rfl;(with_reducible repeat (first|refine blk_drewN ?_ _|refine blk_drew ?_|refine blk_alloc ?_ _));refine blk_put (cs:=#[.string (⟨#[]⟩ : ByteArray),.int .i64 x303001_1,.int .i64 x303002_1,.string x303003_1,.string x303004_1]) ?_ 1 _ rfl;(with_reducible repeat (first|refine blk_drewN ?_ _|refine blk_drew ?_|refine blk_alloc ?_ _));refine blk_put (cs:=#[.string x303000_1,.int .i64 x303001_1,.int .i64 x303002_1,.string x303003_1,.string x303004_1]) ?_ 0 _ rfl;(with_reducible repeat (first|refine blk_drewN ?_ _|refine blk_drew ?_|refine blk_alloc ?_ _));exact BK302.out) Try.underlying28 rfl (by kernel_rfl)) rfl ?_
    exact ⟨by first | rfl|(simp [errW_none,errW_some] <;> rfl)|(simp [*,errW_none,errW_some] <;> rfl),by repeat (first|(with_reducible first|exact HB.out|apply below_alloc|apply pw_below_drewN|apply below_drew1|refine below_set ?_ GE302.out)|exact HB.out)⟩

-- NOT PRINTED: function 32 (incipitlaw17_gets)

-- NOT PRINTED: function 33 (incipitlaw17_from)

-- NOT PRINTED: function 9 (incipitlaw17_TableAll)

-- NOT PRINTED: function 10 (incipitlaw17_TableSpoilt)

-- NOT PRINTED: function 11 (incipitlaw17_TableNone)

end Go.Proofs.Ytenmljkddhonmaa.MTbl

-- Written by a program of this session for this claim (out of the translation's print); Lean checks it.
namespace Go.Proofs.Ytenmljkddhonmaa.MTbl
open Go.RowKit Go.Proofs.YtenmljkddhonmaaW.PrintWords Go.Proofs.YtenmljkddhonmaaW.PrintLast Go.Proofs.YtenmljkddhonmaaW.PrintMore
attribute [local go_sem] max2_int min2_int max_two min_two max_three min_three max_four min_four   -- for this text's walks alone
set_option linter.unusedVariables false
set_option linter.unusedSimpArgs false

end Go.Proofs.Ytenmljkddhonmaa.MTbl

namespace Go.Proofs.Ytenmljkddhonmaa.MTbl
open Go.RowKit Go.Proofs.YtenmljkddhonmaaW.PrintWords Go.Proofs.YtenmljkddhonmaaW.PrintLast Go.Proofs.YtenmljkddhonmaaW.PrintMore
set_option linter.unusedVariables false
set_option linter.unusedSimpArgs false
/-! ### words: comparisons of texts, as the print spells them -/
theorem bl_irrefl_ : ∀ l : List UInt8, Op.bytesLess l l = false
  | [] => rfl
  | x :: t => by simp [Op.bytesLess, bl_irrefl_ t, UInt8.lt_irrefl]
theorem bl_total_ : ∀ a b : List UInt8, a ≠ b → (Op.bytesLess b a = !(Op.bytesLess a b))
  | [], [], h => absurd rfl h
  | [], _ :: _, _ => by simp [Op.bytesLess]
  | _ :: _, [], _ => by simp [Op.bytesLess]
  | x :: a, y :: b, h => by
    unfold Op.bytesLess
    by_cases e : x = y
    · subst e
      have := bl_total_ a b (fun z => h (by rw [z]))
      simp [UInt8.lt_irrefl, this]
    · by_cases l : x < y
      · have : ¬ y < x := fun z => UInt8.lt_asymm l z
        simp [l, this, e, Ne.symm e]
      · have l2 : y < x := UInt8.lt_of_le_of_ne (UInt8.not_lt.1 l) (Ne.symm e)
        simp [l, l2, e, Ne.symm e]
theorem bl_le_ (a b : List UInt8) : (Op.bytesLess a b || a == b) = !(Op.bytesLess b a) := by
  by_cases e : a = b
  · subst e; simp [bl_irrefl_]
  · rw [bl_total_ a b e]; simp [e]
theorem binOp_string_leq_ (t : TypeId) (a b : ByteArray) : binOp .leq t (.string a) (.string b) = pure (.bool !(Op.bytesLess b.toList a.toList)):=by
  rw [← bl_le_]; simp [binOp, Op.stringOp]
theorem binOp_string_geq_ (t : TypeId) (a b : ByteArray) : binOp .geq t (.string a) (.string b) = pure (.bool !(Op.bytesLess a.toList b.toList)):=by
  simp [binOp, Op.stringOp]

attribute [local go_sem] binOp_string_leq_ binOp_string_geq_
structure S136 where
  f0 : ByteArray
  f1 : ByteArray
def z136 : S136 := ⟨(⟨#[]⟩ : ByteArray), (⟨#[]⟩ : ByteArray)⟩
def k136 : Kd S136 := Kd.iso (Kd.pair Kd.string Kd.string) (fun x : S136 => (x.f0, x.f1))
theorem k136_open {w : World} {x : S136} {cs : List Value} (h : k136.K w x cs) : cs = [.string x.f0, .string x.f1] := by
  obtain ⟨_, _, rfl, rfl, rfl⟩ := h
  exact rfl
theorem k136_mkM (w : World) (base : Nat) (ok : Nat → Prop) (x : S136)  : k136.M w base ok x [.string x.f0,.string x.f1]:=⟨[.string x.f0],[.string x.f1],rfl,rfl,rfl⟩
def rd_T136 (xs : List S136) (i : Int) : S136 := xs.getD i.toNat z136
theorem at_T136 {w : World} {A : Option Addr} {n : Nat} {xs : List S136} (h : Kd.C k136 w A n xs) (i : Int) (h0 : 0 ≤ i) (h1 : i < n) : ∃ ad ,A = some ad∧w.cell? (ad.add (i.toNat * 2)) = some (.string (rd_T136 xs i).f0)∧w.cell? ⟨(ad.add (i.toNat * 2)).block,(ad.add (i.toNat * 2)).off + 1,none⟩ = some (.string (rd_T136 xs i).f1):=by
  obtain ⟨ad, c, e, _, hK, hc0⟩ := Kd.C_get h z136 i h0 h1
  have hc : ∀ j u, c[j]? = some u → w.cell? (ad.add (i.toNat * 2 + j)) = some u := hc0
  obtain rfl := k136_open hK
  exact ⟨ad, e, hc 0 _ rfl, by rw [← add_field _ _ 1 (by omega)]; exact hc 1 _ rfl⟩

end Go.Proofs.Ytenmljkddhonmaa.MTbl

namespace Go.Proofs.Ytenmljkddhonmaa.MTbl
open Go.RowKit Go.Proofs.YtenmljkddhonmaaW.PrintWords Go.Proofs.YtenmljkddhonmaaW.PrintLast Go.Proofs.YtenmljkddhonmaaW.PrintMore
set_option linter.unusedVariables false
set_option linter.unusedSimpArgs false
/-! ### words: a text's bytes appended to a row of one's own, with the word on where the new row lies -/
section
variable {P : Program}
theorem run_append_str_at (w : World) (base : Nat) (t u ty e : TypeId) (i : TypeInfo) (ht : P.underlying t = some (.slice e)) (hu : P.underlying u = some .string) (hi : P.info? e = some i) (hz : i.zero = some (.int .u8 0))
    (hsize : i.size = 1) (hby : i.bytes = 1)
    (v : Value) (n : Nat) (xs : List Value) (hown : w.ownsRow base e 1 v n xs) (s : ByteArray)
    (hbytes : n + s.size ≤ 140737488355328) (hbase : base ≤ w.heap.size) :
    ∃ v' w',(Builtin.append_ #[t,u] ty #[v,.string s]).run P w = .ok v' w'∧w'.ownsRow base e 1 v' (n + s.size) (xs ++ Lib.strCells s)∧w.grownBy w' v.ownBlock ∧
      (v'.ownBlock = v.ownBlock ∨ ∃ b, v'.ownBlock = some b ∧ w.heap.size ≤ b) := by
  have h63 : n + s.size ≤ maxLen := by simp only [maxLen]; omega
  obtain ⟨v',w',hr,h2,h3,h4⟩:=Lib.run_append_own_string (P:=P) w base t u ty e i ht hu hi hz hsize hby v n xs hown s h63 hbytes hbase
  refine ⟨v', w', hr, h2, h3, ?_⟩
  have hxl : xs.length = n := by simpa using hown.1
  rcases hown.2 with ⟨rfl, rfl⟩ | ⟨g, cap, cur, rfl, hbg, hg, hnc, hcm, hcs, htake⟩
  · by_cases hm : s.size = 0
    · rw [h4.mpr ⟨rfl, hm⟩]; exact .inl rfl
    · have hr2:=run_append_nil_string (P:=P) w t u ty e i (.int .u8 0) ht hu hi hz s (by omega) (by omega) (by rw [hby];omega)
      rw [hr2] at hr
      injection hr with e1 _
      exact .inr ⟨w.heap.size, by rw [← e1]; rfl, Nat.le_refl _⟩
  · by_cases hroom : n + s.size ≤ cap
    · have hcs' : cur.size = cap := by simpa using hcs
      have hr2 := Lib.run_append_room_string (P := P) w t u ty e i ht hu hi hsize g n cap cur hg s hroom (by omega)
      rw [hr2] at hr
      injection hr with e1 _
      exact .inl (by rw [← e1]; rfl)
    · have holds : ∀ j u, xs[j]? = some u → w.cell? ((⟨g, 0, none⟩ : Addr).add j) = some u := hown.cells (g := g) rfl
      have hr2:=Lib.run_append_grow_string (P:=P) w t u ty e i (.int .u8 0) ht hu hi hz ⟨g,0,none⟩ n cap xs (by rw [hsize];simpa using hxl) holds s (by omega) (by omega) (by rw [hby];exact growslice_fits (by omega) (by omega))
      rw [hr2] at hr
      injection hr with e1 _
      exact .inr ⟨w.heap.size, by rw [← e1]; rfl, Nat.le_refl _⟩
end
section
variable {P : Program} {ops : Array Oper} {rest : List Oper} {o : Oper} {a : Act} {Q : Exit → Act → World → Prop} {Kc : Act → World → Prop}
theorem append_str_run {w0 W : World} (base : Nat) (t u e : TypeId) (ty : TypeId)
    (ht : P.underlying t = some (.slice e)) (hu : P.underlying u = some .string) (hinfo : (P.info? e).map (fun i=>(i.zero,i.size,i.bytes)) = some (some (.int .u8 0),1,1))
    (v : Value) (xs : List Int) (y : ByteArray) (ok : Nat → Prop)
    (HO : Kd.R (Kd.int .u8) e W base ok v xs) (hfresh : ∀ k,W.heap.size ≤ k → ok k) (HB : Below base w0 W) (hbase : base ≤ W.heap.size) (hl : xs.length + y.size ≤ 140737488355328) :
    ∃ v1 w1,(Builtin.append_ #[t,u] ty #[v,.string y]).run P W = .ok v1 w1∧Kd.R (Kd.int .u8) e w1 base ok v1 (xs ++ bytesOf y)∧Below base w0 w1∧W.grownBy w1 v.ownBlock∧(v1.ownBlock = v.ownBlock ∨ ∃ b,v1.ownBlock = some b∧W.heap.size ≤ b):=by
  obtain ⟨i0, hi, hzz⟩ := Option.map_eq_some_iff.1 hinfo
  simp only [Prod.mk.injEq] at hzz
  obtain ⟨hz0, hz1, hz2⟩ := hzz
  have hown := Kd.own_of_R (enc := Value.int .u8) (h1 := fun _ => rfl) HO
  obtain ⟨v1,w1,hr,h2,hg,hat⟩:=run_append_str_at (P:=P) W base t u ty e i0 ht hu hi hz0 hz1 hz2 v xs.length (encs (Value.int .u8) xs) hown y hl hbase
  have hl2 : (xs ++ bytesOf y).length = xs.length + y.size := by rw [List.length_append, bytesOf_length]
  have hc : encs (Value.int .u8) (xs ++ bytesOf y) = encs (Value.int .u8) xs ++ Lib.strCells y := by
    simp [encs, bytesOf, Lib.strCells]
  refine ⟨v1, w1, hr, Kd.R_of_own (by rw [hl2, hc]; exact h2) ?_, HB.grown hg hbase (own_base hown), hg, hat⟩
  intro k hk
  rcases hat with hat | ⟨b, hb, hle⟩
  · exact HO.1 k (hat ▸ hk)
  · rw [hb] at hk
    injection hk with hk
    exact hfresh k (by omega)
theorem R_append_str_step {w0 W : World} (base : Nat) (hw : Region.wanted o (yielded ops a.tmps) = true) (s x : Operand) (t u e : TypeId)
    (ho : o.op = .call { callee := .builtin .append, args := #[s, x], argTypes := #[t, u] })
    (ht : P.underlying t = some (.slice e)) (hu : P.underlying u = some .string) (hinfo : (P.info? e).map (fun i=>(i.zero,i.size,i.bytes)) = some (some (.int .u8 0),1,1))
    (v : Value) (xs : List Int) (y : ByteArray) (ok : Nat → Prop) (hs : a.eval s = v) (hx : a.eval x = .string y)
    (HO : Kd.R (Kd.int .u8) e W base ok v xs) (hfresh : ∀ k,W.heap.size ≤ k → ok k) (HB : Below base w0 W) (hbase : base ≤ W.heap.size) (hl : xs.length + y.size ≤ 140737488355328)
    (h : ∀ v1 w1,Kd.R (Kd.int .u8) e w1 base ok v1 (xs ++ bytesOf y) → Below base w0 w1 → W.grownBy w1 v.ownBlock → (v1.ownBlock = v.ownBlock ∨ ∃ b,v1.ownBlock = some b∧W.heap.size ≤ b) → Kc (a.put o.dst v1) w1) :
    if Region.wanted o (yielded ops a.tmps) = true then Oper.wp P o a W Kc Q else Kc (a.put o.dst undef) W := by
  obtain ⟨v1,w1,hr1,h1,h2,hg,hat⟩:=append_str_run (P:=P) base t u e o.type ht hu hinfo v xs y ok HO hfresh HB hbase hl
  rw [if_pos hw]
  unfold Oper.wp execOp
  simp only [ho,resolve,invoke,builtin,Sem.run_bind,Sem.run_pure,Result.andThen_ok,List.map_toArray,List.map_cons,List.map_nil,hs,hx,hr1]
  exact h v1 w1 h1 h2 hg hat
end
end Go.Proofs.Ytenmljkddhonmaa.MTbl

namespace Go.Proofs.Ytenmljkddhonmaa.MTbl
open Go.RowKit Go.Proofs.YtenmljkddhonmaaW.PrintWords Go.Proofs.YtenmljkddhonmaaW.PrintLast Go.Proofs.YtenmljkddhonmaaW.PrintMore
set_option linter.unusedVariables false
set_option linter.unusedSimpArgs false
/-- A builder at block g: both its rows are the call's own (since w0), and apart. -/
def BldI (w0 w : World) (g : Nat) (rows : Int) (last : ByteArray) (b p : List Int) : Prop :=
  w0.heap.size ≤ g∧Below w0.heap.size w0 w∧∃ vb vp,w.heap[g]? = some (.cells #[.int .i64 rows,.string last,vb,vp] 120 (0,0))∧Kd.R (Kd.int .u8) 5 w w0.heap.size (fun k=>k ≠ g) vb b∧Kd.R (Kd.int .u8) 5 w w0.heap.size (fun k=>k ≠ g) vp p∧(∀ k,vb.ownBlock = some k → vp.ownBlock ≠ some k)
/-- Blocks of other types stay, but for g. -/
def Oth (w w' : World) (g : Nat) : Prop:=w.heap.size ≤ w'.heap.size∧∀ (i : Nat) (cs : Array Value) (t : TypeId),i ≠ g → t ≠ 5 → w.heap[i]? = some (.cells cs t (0,0)) → w'.heap[i]? = some (.cells cs t (0,0))
theorem Oth.refl (w : World) (g : Nat) : Oth w w g := ⟨Nat.le_refl _, fun _ _ _ _ _ h => h⟩
theorem Oth.trans {a b c : World} {g : Nat} (h : Oth a b g) (k : Oth b c g) : Oth a c g:=⟨Nat.le_trans h.1 k.1,fun i cs t hi ht hw=>k.2 i cs t hi ht (h.2 i cs t hi ht hw)⟩
theorem Oth.below {a b : World} {g : Nat} (h : Below a.heap.size a b) : Oth a b g:=⟨h.size,fun i cs t _ _ hw=>(h.block i (blk_lt hw)).trans hw⟩
theorem Oth.grown {a b : World} {g : Nat} {base : Nat} {ok : Nat → Prop} {v : Value} {l : List Int} (hO : Kd.R (Kd.int .u8) 5 a base ok v l) (hg : a.grownBy b v.ownBlock) : Oth a b g:=by
  refine ⟨hg.size, fun i cs t _ ht hw => (hg.block i (blk_lt hw) ?_).trans hw⟩
  intro e
  obtain ⟨cells, hcell⟩ := own_typed (Kd.own_of_R (enc := Value.int .u8) (h1 := fun _ => rfl) hO) i e.symm
  rw [hw] at hcell
  injection hcell with hcell
  injection hcell with _ ht2
  exact ht ht2
theorem Oth.set {a : World} {g : Nat} (j : Nat) (u : Value) : Oth a (a.setCell ⟨g, j, none⟩ u) g := by
  refine ⟨by simp [World.setCell], fun i cs t hi _ hw => (Below.heap_setCell a ⟨g, j, none⟩ u i hi).trans hw⟩
theorem BldI.below {w0 w w' : World} {g : Nat} {rows : Int} {last : ByteArray} {b p : List Int} (h : BldI w0 w g rows last b p) (hb : Below w.heap.size w w') : BldI w0 w' g rows last b p:=by
  obtain ⟨h1, h2, vb, vp, h3, h4, h5, h6⟩ := h
  exact ⟨h1, below_step h2 hb, vb, vp, (hb.block g (blk_lt h3)).trans h3, Kd.R_below h4 hb, Kd.R_below h5 hb, h6⟩
theorem ne_after {w : World} {v v1 u : Value} (hlt : ∀ k,u.ownBlock = some k → k < w.heap.size) (hat : v1.ownBlock = v.ownBlock ∨ ∃ b,v1.ownBlock = some b∧w.heap.size ≤ b) (h : ∀ k,v.ownBlock = some k → u.ownBlock ≠ some k) : ∀ k,v1.ownBlock = some k → u.ownBlock ≠ some k:=by
  intro k hk hu
  rcases hat with hat | ⟨b, hb, hle⟩
  · exact h k (hat ▸ hk) hu
  · rw [hb] at hk
    injection hk with hk
    have := hlt k hu
    omega
theorem ne_sym {u v : Value} (h : ∀ k,u.ownBlock = some k → v.ownBlock ≠ some k) : ∀ k,v.ownBlock = some k → u.ownBlock ≠ some k:=fun k hv hu=>h k hu hv
/-- A row that is not the one grown. -/
theorem R_beside {w w1 : World} {base e : Nat} {ok : Nat → Prop} {u v : Value} {l : List Int} (h : Kd.R (Kd.int .u8) e w base ok u l) (hg : w.grownBy w1 v.ownBlock) (hn : ∀ k,u.ownBlock = some k → v.ownBlock ≠ some k) : Kd.R (Kd.int .u8) e w1 base ok u l:=by
  have hown := Kd.own_of_R (enc := Value.int .u8) (h1 := fun _ => rfl) h
  exact Kd.R_of_own (own_move hown (fun k hk => hg.block k (own_lt hown k hk) (fun e => hn k hk e.symm))) h.1
/-- The row b grown, and stored. -/
theorem BldI.set_b {w0 w w1 : World} {g : Nat} {rows : Int} {last : ByteArray} {b p b1 : List Int} {vx vb vp v1 : Value} (hge : w0.heap.size ≤ g) (hB : Below w0.heap.size w0 w1) (hc : w.heap[g]? = some (.cells #[.int .i64 rows,.string last,vx,vp] 120 (0,0))) (hb : Kd.R (Kd.int .u8) 5 w w0.heap.size (fun k=>k ≠ g) vb b) (hp : Kd.R (Kd.int .u8) 5 w w0.heap.size (fun k=>k ≠ g) vp p) (hn : ∀ k,vb.ownBlock = some k → vp.ownBlock ≠ some k)
    (h1 : Kd.R (Kd.int .u8) 5 w1 w0.heap.size (fun k=>k ≠ g) v1 b1) (hg : w.grownBy w1 vb.ownBlock) (hat : v1.ownBlock = vb.ownBlock ∨ ∃ b,v1.ownBlock = some b∧w.heap.size ≤ b) :
    BldI w0 (w1.setCell ⟨g, 2, none⟩ v1) g rows last b1 p := by
  have hc1 : w1.heap[g]? = _ := (hg.block g (blk_lt hc) (Kd.R_away hb (fun _ h => h))).trans hc
  exact ⟨hge,below_set hB hge,v1,vp,by simpa using blk_set hc1 2 v1,Kd.R_far (p:=⟨g,2,none⟩) h1 (fun _ hk=>hk) _,Kd.R_far (p:=⟨g,2,none⟩) (R_beside hp hg (ne_sym hn)) (fun _ hk=>hk) _,ne_after (Kd.R_lt hp) hat hn⟩
theorem BldI.set_p {w0 w w1 : World} {g : Nat} {rows : Int} {last : ByteArray} {b p p1 : List Int} {vb vx vp v1 : Value} (hge : w0.heap.size ≤ g) (hB : Below w0.heap.size w0 w1) (hc : w.heap[g]? = some (.cells #[.int .i64 rows,.string last,vb,vx] 120 (0,0))) (hb : Kd.R (Kd.int .u8) 5 w w0.heap.size (fun k=>k ≠ g) vb b) (hp : Kd.R (Kd.int .u8) 5 w w0.heap.size (fun k=>k ≠ g) vp p) (hn : ∀ k,vb.ownBlock = some k → vp.ownBlock ≠ some k)
    (h1 : Kd.R (Kd.int .u8) 5 w1 w0.heap.size (fun k=>k ≠ g) v1 p1) (hg : w.grownBy w1 vp.ownBlock) (hat : v1.ownBlock = vp.ownBlock ∨ ∃ b,v1.ownBlock = some b∧w.heap.size ≤ b) :
    BldI w0 (w1.setCell ⟨g, 3, none⟩ v1) g rows last b p1 := by
  have hc1 : w1.heap[g]? = _ := (hg.block g (blk_lt hc) (Kd.R_away hp (fun _ h => h))).trans hc
  exact ⟨hge,below_set hB hge,vb,v1,by simpa using blk_set hc1 3 v1,Kd.R_far (p:=⟨g,3,none⟩) (R_beside hb hg hn) (fun _ hk=>hk) _,Kd.R_far (p:=⟨g,3,none⟩) h1 (fun _ hk=>hk) _,ne_sym (ne_after (Kd.R_lt hb) hat (ne_sym hn))⟩
theorem BldI.set_0 {w0 w : World} {g : Nat} {rows : Int} {last : ByteArray} {b p : List Int} (h : BldI w0 w g rows last b p) (x : Int) : BldI w0 (w.setCell ⟨g,0,none⟩ (.int .i64 x)) g x last b p:=by
  obtain ⟨h1, h2, vb, vp, h3, h4, h5, h6⟩ := h
  exact ⟨h1,below_set h2 h1,vb,vp,by simpa using blk_set h3 0 (.int .i64 x),Kd.R_far (p:=⟨g,0,none⟩) h4 (fun _ hk=>hk) _,Kd.R_far (p:=⟨g,0,none⟩) h5 (fun _ hk=>hk) _,h6⟩
theorem BldI.set_1 {w0 w : World} {g : Nat} {rows : Int} {last : ByteArray} {b p : List Int} (h : BldI w0 w g rows last b p) (x : ByteArray) : BldI w0 (w.setCell ⟨g,1,none⟩ (.string x)) g rows x b p:=by
  obtain ⟨h1, h2, vb, vp, h3, h4, h5, h6⟩ := h
  exact ⟨h1,below_set h2 h1,vb,vp,by simpa using blk_set h3 1 (.string x),Kd.R_far (p:=⟨g,1,none⟩) h4 (fun _ hk=>hk) _,Kd.R_far (p:=⟨g,1,none⟩) h5 (fun _ hk=>hk) _,h6⟩
set_option maxHeartbeats 8000000 in
set_option maxRecDepth 100000 in
theorem block_Add_no.calls (w0 w : World) (g : Nat) (rows : Int) (last key value : ByteArray) (b p : List Int) (hI : BldI w0 w g rows last b p) (h1 : 0 < rows) (h2 : Op.bytesLess last.toList key.toList = false) :
    Calls Try.prog 45 #[.pointer (some ⟨g,0,none⟩),.string key,.string value] w fun e w'=>e = .returned (.bool false)∧w' = w:=by
  obtain ⟨hge, hB, vb, vp, hC, hO, hP, hn⟩ := hI
  have h0 : w.cell? ⟨g, 0, none⟩ = some (.int .i64 rows) := (blk_cell hC 0).trans rfl
  have hl : w.cell? ⟨g, 1, none⟩ = some (.string last) := (blk_cell hC 1).trans rfl
  clear hB hC hO hP hn
  have hu82 := Try.underlying82
  have hr : (0 < rows) = True := eq_true h1
  have hle : binOp .leq 9 (.string key) (.string last) = pure (.bool true) := by rw [binOp_string_leq_, h2]; rfl
  clear h2 h1
  go_enter Try.func45, Try.ntmps45
  go_wp2
  go_ret
  exact ⟨rfl, rfl⟩
end Go.Proofs.Ytenmljkddhonmaa.MTbl

namespace Go.Proofs.Ytenmljkddhonmaa.MTbl
open Go.RowKit Go.Proofs.YtenmljkddhonmaaW.PrintWords Go.Proofs.YtenmljkddhonmaaW.PrintLast Go.Proofs.YtenmljkddhonmaaW.PrintMore
set_option linter.unusedVariables false
set_option linter.unusedSimpArgs false
set_option maxHeartbeats 8000000 in
set_option maxRecDepth 100000 in
theorem cloneB.calls (A : Option Addr) (c : Nat) (l : List Int) (w : World) (hr : Kd.C (Kd.int .u8) w A l.length l) (hc : l.length ≤ c) (hl : l.length ≤ 140737488355328) :
    Calls Try.prog 58 #[.slice A l.length c] w fun e w'=>∃ v,e = .returned v∧Kd.R (Kd.int .u8) 5 w' w.heap.size (fun _=>True) v l∧Below w.heap.size w w':=by
  have HR := Aside0.mk hr
  have HL := Aside0.mk hl
  clear hr hl
  cases A with
  | none =>
    have hl0 : l = [] := by
      obtain ⟨h1, _⟩ := HR.out
      cases l with
      | nil => rfl
      | cons x t => obtain ⟨_, h, _⟩ := Kd.at_int HR.out 0 (by omega) (by simp only [List.length_cons]; omega); cases h
    subst hl0
    have he : ∀ W,(binOp .eql 43 (.slice none 0 c) (.slice none 0 0)).run Try.prog W = .ok (.bool true) W:=fun _=>by rfl
    go_enter Try.func58, Try.ntmps58
    go_wp2
    go_ret
    exact ⟨_, rfl, Kd.R_nil _ _ _ _ _, Below.refl _ _⟩
  | some ad =>
    have he : ∀ W,(binOp .eql 43 (.slice (some ad) l.length c) (.slice none 0 0)).run Try.prog W = .ok (.bool false) W:=fun _=>by rfl
    go_enter Try.func58, Try.ntmps58
    go_wp2_with (first | ((with_reducible refine gate_builtin (b:=.append) (xs:=#[.tmp 5,.tmp 6]) rfl ?_);at_builtin;refine Kd.R_append_rows (Kd.int .u8) (w0:=w) w.heap.size rfl (.tmp 5) (.tmp 6) 43 5 (.int .u8 0) 1 rfl Try.underlying43 info5 rfl (by decide) (by omega) (.slice (some ⟨w.heap.size,0,none⟩) 0 0) [] l (some ad) l.length c (fun _=>True) (fun _=>False) rfl rfl ?aO ?aR (fun _ _ h=>h) (fun _ h=>h.elim) ?aF ?aB ?aS ?aL ?_;(case aO=>exact Kd.R_of_own (enc:=Value.int .u8) (h1:=fun _=>rfl) (xs:=[]) (World.ownsRow_made w #[] 0 (Nat.le_refl _) (by simp [maxLen]) rfl) (fun _ _=>trivial));(case aR=>exact Kd.C_alloc HR.out _);(case aF=>exact (fun _ _=>trivial));(case aB=>exact below_alloc (Below.refl _ _) _);(case aS=>simp);(case aL=>have:=HL.out;simp only [List.length_nil];omega);intro v1 w1 ho1 hb1 hg1 hat1;have HO1:=Aside0.mk ho1;have HB1:=Aside0.mk hb1;clear ho1 hb1 hg1 hat1))
    go_ret
    exact ⟨_, rfl, HO1.out, HB1.out⟩
/-- Entries stand in a row that is read alone; what it is. -/
def RowE (w : World) (v : Value) (l : List S28) : Prop:=∃ A c,v = .slice A l.length c∧Kd.C k28 w A l.length l∧l.length ≤ c
/-- A table that is open. -/
def TabI (w : World) (g : Nat) (l : List S28) (flt : List Int) (bl : Nat) : Prop:=∃ A c A2 c2,w.heap[g]? = some (.cells #[.slice A l.length c,.slice A2 flt.length c2,.int .i64 bl] 101 (0,0))∧Kd.C k28 w A l.length l∧l.length ≤ c∧Kd.C (Kd.int .u8) w A2 flt.length flt∧flt.length ≤ c2
theorem TabI.below {w w' : World} {g : Nat} {l : List S28} {flt : List Int} {bl : Nat} (h : TabI w g l flt bl) (hb : Below w.heap.size w w') : TabI w' g l flt bl:=by
  obtain ⟨A, c, A2, c2, h1, h2, h3, h4, h5⟩ := h
  exact ⟨A, c, A2, c2, (hb.block g (blk_lt h1)).trans h1, Kd.C_below h2 hb, h3, Kd.C_below h4 hb, h5⟩
set_option maxHeartbeats 8000000 in
set_option maxRecDepth 100000 in
theorem table_Len_nil.calls (w : World) : Calls Try.prog 26 #[.pointer none] w fun e w'=>e = .returned (.int .i64 0)∧w' = w:=by
  go_enter Try.func26, Try.ntmps26
  go_wp2
  go_ret
  exact ⟨rfl, rfl⟩
set_option maxHeartbeats 8000000 in
set_option maxRecDepth 100000 in
theorem table_Blocks_nil.calls (w : World) : Calls Try.prog 27 #[.pointer none] w fun e w'=>e = .returned (.int .i64 0)∧w' = w:=by
  go_enter Try.func27, Try.ntmps27
  go_wp2
  go_ret
  exact ⟨rfl, rfl⟩
set_option maxHeartbeats 8000000 in
set_option maxRecDepth 100000 in
theorem table_Len.calls (w : World) (g : Nat) (l : List S28) (flt : List Int) (bl : Nat) (hI : TabI w g l flt bl) : Calls Try.prog 26 #[.pointer (some ⟨g,0,none⟩)] w fun e w'=>e = .returned (.int .i64 l.length)∧w' = w:=by
  obtain ⟨A, c, A2, c2, h1, -⟩ := hI
  have hc0 := (blk_cell h1 0).trans rfl
  clear h1
  go_enter Try.func26, Try.ntmps26
  go_wp2
  go_ret
  exact ⟨rfl, rfl⟩
set_option maxHeartbeats 8000000 in
set_option maxRecDepth 100000 in
theorem table_Blocks.calls (w : World) (g : Nat) (l : List S28) (flt : List Int) (bl : Nat) (hI : TabI w g l flt bl) : Calls Try.prog 27 #[.pointer (some ⟨g,0,none⟩)] w fun e w'=>e = .returned (.int .i64 bl)∧w' = w:=by
  obtain ⟨A, c, A2, c2, h1, -⟩ := hI
  have hc0 := (blk_cell h1 2).trans rfl
  clear h1
  go_enter Try.func27, Try.ntmps27
  go_wp2
  go_ret
  exact ⟨rfl, rfl⟩
end Go.Proofs.Ytenmljkddhonmaa.MTbl
