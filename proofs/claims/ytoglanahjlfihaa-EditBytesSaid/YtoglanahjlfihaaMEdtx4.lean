-- Written by a program of this session for this claim (out of the translation's print); Lean checks it.
import Derived.Test.YtoglanahjlfihaaMEdtx0
import Derived.Test.YtoglanahjlfihaaMEdtx3
namespace Go.Proofs.Ytoglanahjlfihaa.MEdt
open Go.RowKit Go.Proofs.YtoglanahjlfihaaW.PrintWords Go.Proofs.YtoglanahjlfihaaW.PrintLast Go.Proofs.YtoglanahjlfihaaW.PrintMore
attribute [local go_sem] max2_int min2_int max_two min_two max_three min_three max_four min_four   -- for this text's walks alone
set_option linter.unusedVariables false
set_option linter.unusedSimpArgs false

/-! ### incipitlaw19_Cut: function 24 -/
mutual
def incipitlaw19_Cut.j0 : Nat → Int → Int → Int → List (S55) → List Int → Option (Int × Int × Int × (List (S55)) × List Int)
 | 0, _, _, _, _, _ => none
 | k + 1, x152000, x152001, x152002, x152003, x152004 => incipitlaw19_Cut.l0 k ([] : List (S55)) 0 x152000 x152001 x152002 x152003 x152004
def incipitlaw19_Cut.l0 : Nat → List (S55) → Int → Int → Int → Int → List (S55) → List Int → Option (Int × Int × Int × (List (S55)) × List Int)
 | 0, _, _, _, _, _, _, _ => none
 | k + 1,x3,x4,x152000,x152001,x152002,x152003,x152004 => if x4 < (x152003.length : Int) then (if 0 ≤ x4 then ((incipitlaw1_Cut.f ((rd_T55 x152003 x4).f3) 20).bind fun t160 => ((incipitlaw1_Cut.f ((rd_T55 x152003 x4).f4) 20).bind fun t161 => (if x3.length < 2513169434916 then (incipitlaw19_Cut.l0 k (x3 ++ [(⟨(rd_T55 x152003 x4).f0,(rd_T55 x152003 x4).f1,(rd_T55 x152003 x4).f2,t160,t161⟩ : S55)]) (wrap64 (x4 + 1)) x152000 x152001 x152002 x152003 x152004) else (none)))) else (none)) else (if (x152004.length : Int) > 12 then (if 12 ≤ (x152004.length : Int) then (some (x152000,x152001,x152002,x3,(x152004.take 12))) else (none)) else (some (x152000,x152001,x152002,x3,x152004)))
end
def incipitlaw19_Cut.f (k : Nat) (a0_0 : Int) (a0_1 : Int) (a0_2 : Int) (l0_3 : List (S55)) (l0_4 : List Int) : Option (Int × Int × Int × (List (S55)) × List Int) := if (l0_3.length : Int) > 12 then (if 12 ≤ (l0_3.length : Int) then (incipitlaw19_Cut.j0 k a0_0 a0_1 a0_2 (l0_3.take 12) l0_4) else (none)) else (incipitlaw19_Cut.j0 k a0_0 a0_1 a0_2 l0_3 l0_4)
theorem incipitlaw19_Cut.mono_l : ∀ k,(∀ y0 y1 y2 y3 y4,LeO (incipitlaw19_Cut.j0 k y0 y1 y2 y3 y4) (incipitlaw19_Cut.j0 (k + 1) y0 y1 y2 y3 y4)) ∧ (∀ y0 y1 y2 y3 y4 y5 y6,LeO (incipitlaw19_Cut.l0 k y0 y1 y2 y3 y4 y5 y6) (incipitlaw19_Cut.l0 (k + 1) y0 y1 y2 y3 y4 y5 y6))
 | 0 => ⟨fun _ _ _ _ _ r h => by simp [incipitlaw19_Cut.j0] at h, fun _ _ _ _ _ _ _ r h => by simp [incipitlaw19_Cut.l0] at h⟩
 | k + 1 => by
  obtain ⟨ih0, ih1⟩ := incipitlaw19_Cut.mono_l k
  refine ⟨?_, ?_⟩
  ·intro y0 y1 y2 y3 y4
   unfold incipitlaw19_Cut.j0
   repeat' first
  |(with_reducible exact ih0 _ _ _ _ _)
  |(with_reducible exact ih1 _ _ _ _ _ _ _)
  |(with_reducible exact LeO.refl _)
  |(with_reducible exact LeO.none _)
  |(with_reducible refine LeO.ite ?_ ?_)
  |(with_reducible refine LeO.bind ?_ (fun _ => ?_))
  |exact ih0 _ _ _ _ _
  |exact ih1 _ _ _ _ _ _ _
  |exact LeO.none _
  |refine LeO.ite ?_ ?_
  |refine LeO.bind ?_ (fun _ => ?_)
  ·intro y0 y1 y2 y3 y4 y5 y6
   unfold incipitlaw19_Cut.l0
   repeat' first
  |(with_reducible exact ih0 _ _ _ _ _)
  |(with_reducible exact ih1 _ _ _ _ _ _ _)
  |(with_reducible exact LeO.refl _)
  |(with_reducible exact LeO.none _)
  |(with_reducible refine LeO.ite ?_ ?_)
  |(with_reducible refine LeO.bind ?_ (fun _ => ?_))
  |exact ih0 _ _ _ _ _
  |exact ih1 _ _ _ _ _ _ _
  |exact LeO.none _
  |refine LeO.ite ?_ ?_
  |refine LeO.bind ?_ (fun _ => ?_)
theorem incipitlaw19_Cut.mono : ∀ a0 a1 a2 a3 a4 k, LeO (incipitlaw19_Cut.f k a0 a1 a2 a3 a4) (incipitlaw19_Cut.f (k + 1) a0 a1 a2 a3 a4) := by
 intro a0 a1 a2 a3 a4 k
 obtain ⟨ih0, ih1⟩ := incipitlaw19_Cut.mono_l k
 unfold incipitlaw19_Cut.f
 repeat' first
  |(with_reducible exact ih0 _ _ _ _ _)
  |(with_reducible exact ih1 _ _ _ _ _ _ _)
  |(with_reducible exact LeO.refl _)
  |(with_reducible exact LeO.none _)
  |(with_reducible refine LeO.ite ?_ ?_)
  |(with_reducible refine LeO.bind ?_ (fun _ => ?_))
  |exact ih0 _ _ _ _ _
  |exact ih1 _ _ _ _ _ _ _
  |exact LeO.none _
  |refine LeO.ite ?_ ?_
  |refine LeO.bind ?_ (fun _ => ?_)
def incipitlaw19_Cut.T8 : Bool × List (List Nat × List Nat) := (true,[([],[]),([0],[0]),([1],[1]),([],[]),([3],[3]),([4,2],[4]),([0,1,2,3,4],[]),([6,2,5,0,1,2,3,4],[2,6]),([0,1,2,3,4,5,6,7],[]),([8,5,7,0,1,2,3,4,5,6,7],[5,8])])
def incipitlaw19_Cut.B8 : List Nat := [0, 1, 3, 0, 8, 31, 31, 127, 255, 511]
theorem incipitlaw19_Cut.tab8 : rtab .any (opsOf Try.f24 8) = incipitlaw19_Cut.T8 := by kernel_rfl
theorem incipitlaw19_Cut.bits8 : waitsOk incipitlaw19_Cut.T8.2 incipitlaw19_Cut.B8 = true := by kernel_rfl
set_option maxHeartbeats 80000000 in
set_option maxRecDepth 100000 in
theorem incipitlaw19_Cut.calls (k : Nat) (a0_0 : Int) (a0_1 : Int) (a0_2 : Int) (P0_3_ : Nat → Prop) (A0_3 : Option Addr) (c0_3 : Nat) (l0_3 : List (S55)) (P0_4_ : Nat → Prop) (A0_4 : Option Addr) (c0_4 : Nat) (l0_4 : List Int) (r1 : Int) (r2 : Int) (r3 : Int) (r4 : List (S55)) (r5 : List Int) (w : World) (hs0_3 : Kd.V k55 55 w w.heap.size (fun k_ => P0_3_ k_) (.slice A0_3 l0_3.length c0_3) l0_3) (hs0_4 : Kd.V (Kd.int .i64) 2 w w.heap.size (fun k_ => P0_4_ k_) (.slice A0_4 l0_4.length c0_4) l0_4) (h : incipitlaw19_Cut.f k a0_0 a0_1 a0_2 l0_3 l0_4 = some (r1,r2,r3,r4,r5)) :
  Calls Try.prog 24 #[.agg #[.int .i64 a0_0,.int .i64 a0_1,.int .i64 a0_2,.slice A0_3 l0_3.length c0_3,.slice A0_4 l0_4.length c0_4]] w fun e w' => ∃ v3_ v4_ : Value,e = .returned (.agg #[.int .i64 r1,.int .i64 r2,.int .i64 r3,v3_,v4_]) ∧ Kd.R k55 55 w' w.heap.size (fun k_ => (w.heap.size ≤ k_)) v3_ r4 ∧ Kd.V (Kd.int .i64) 2 w' w.heap.size (fun k_ => ((P0_3_ k_ ∨ P0_4_ k_) ∨ w.heap.size ≤ k_) ∧ some k_ ≠ (v3_ : Value).ownBlock) v4_ r5 ∧ Below w.heap.size w w' := by
 have hu43 := Try.underlying43
 have hu55 := Try.underlying55
 have HO0_3 := Aside0.mk (show Kd.V k55 55 w w.heap.size (fun k_ => ((P0_3_ k_ ∨ P0_4_ k_) ∨ w.heap.size ≤ k_)) (.slice A0_3 l0_3.length c0_3) l0_3 from Kd.V_mono hs0_3 (fun k_ hk => .inl (.inl hk)))
 have HO0_4 := Aside0.mk (show Kd.V (Kd.int .i64) 2 w w.heap.size (fun k_ => ((P0_3_ k_ ∨ P0_4_ k_) ∨ w.heap.size ≤ k_)) (.slice A0_4 l0_4.length c0_4) l0_4 from Kd.V_mono hs0_4 (fun k_ hk => .inl (.inr hk)))
 have HB := Aside0.mk (Below.refl w.heap.size w)
 have H : (if (l0_3.length : Int) > 12 then (if 12 ≤ (l0_3.length : Int) then (incipitlaw19_Cut.j0 k a0_0 a0_1 a0_2 (l0_3.take 12) l0_4) else (none)) else (incipitlaw19_Cut.j0 k a0_0 a0_1 a0_2 l0_3 l0_4)) = some (r1,r2,r3,r4,r5) := h
 clear h
 have HC2 := Aside0.mk H
 clear H
 go_enter Try.func24, Try.ntmps24
 go_upto_if 9 with (first|((with_reducible refine gate_dst (N := 1) rfl ?_);refine box_event ?hg (N := 1) ?hd (cs := #[.int .i64 a0_0,.int .i64 a0_1,.int .i64 a0_2,.slice A0_3 l0_3.length c0_3,.slice A0_4 l0_4.length c0_4]) (t := 43) ?hr ?_;(case hd => rfl);(case hg => rfl);(case hr => first|(go_simp;done)|(go_simp;rfl));intro gb151 hg w3 hbox hb;have n0_ := Aside0.mk (Kd.V_below (Kd.V_elderB (by (with_reducible repeat (first|apply Kd.V_alloc|apply Kd.V_drewN|apply Kd.V_drew));exact HO0_3.out) gb151 (Nat.le_of_eq hg.symm)) hb);have n1_ := Aside0.mk (Kd.V_below (Kd.V_elderB (by (with_reducible repeat (first|apply Kd.V_alloc|apply Kd.V_drewN|apply Kd.V_drew));exact HO0_4.out) gb151 (Nat.le_of_eq hg.symm)) hb);have n2_ := Aside0.mk (below_step (by repeat (first|(with_reducible first|exact HB.out|apply below_alloc|apply pw_below_drewN|apply below_drew1)|exact HB.out)) hb);have n3_ := Aside0.mk (hbox);have n4_ := Aside0.mk ((by rw [hg];exact (below_size (by repeat (first|(with_reducible first|exact HB.out|apply below_alloc|apply pw_below_drewN|apply below_drew1)|exact HB.out))) : w.heap.size ≤ gb151));have n5_ := Aside0.mk ((by rw [hg];exact (below_size (by repeat (first|(with_reducible first|exact HB.out|apply below_alloc|apply pw_below_drewN|apply below_drew1)|exact HB.out))) : w.heap.size ≤ gb151));clear HO0_3;clear HO0_4;clear HB;have HO0_3 := n0_;have HO0_4 := n1_;have HB := n2_;have BK151 := n3_;have GW151 := n4_;have GE151 := n5_;clear n0_ n1_ n2_ n3_ n4_ n5_;clear hb hbox hg)|((with_reducible refine gate_dst (N := 2) rfl ?_);refine box_event ?hg (N := 2) ?hd (cs := #[.int .i64 0,.int .i64 0,.int .i64 0,.slice none 0 0,.slice none 0 0]) (t := 43) ?hr ?_;(case hd => rfl);(case hg => rfl);(case hr => first|(go_simp;done)|(go_simp;rfl));intro gb152 hg w4 hbox hb;have n0_ := Aside0.mk (Kd.V_below (Kd.V_elderB (by (with_reducible repeat (first|apply Kd.V_alloc|apply Kd.V_drewN|apply Kd.V_drew));exact HO0_3.out) gb152 (Nat.le_of_eq hg.symm)) hb);have n1_ := Aside0.mk (Kd.V_below (Kd.V_elderB (by (with_reducible repeat (first|apply Kd.V_alloc|apply Kd.V_drewN|apply Kd.V_drew));exact HO0_4.out) gb152 (Nat.le_of_eq hg.symm)) hb);have n2_ := Aside0.mk (blk_below (g := gb151) (o := .cells #[.int .i64 a0_0,.int .i64 a0_1,.int .i64 a0_2,.slice A0_3 l0_3.length c0_3,.slice A0_4 l0_4.length c0_4] 43 (0,0)) (by (with_reducible repeat (first|refine blk_drewN ?_ _|refine blk_drew ?_|refine blk_alloc ?_ _));exact BK151.out) hb);have n3_ := Aside0.mk (below_step (by repeat (first|(with_reducible first|exact HB.out|apply below_alloc|apply pw_below_drewN|apply below_drew1|refine below_set ?_ GE151.out)|exact HB.out)) hb);have n4_ := Aside0.mk (hbox);have n5_ := Aside0.mk ((by rw [hg];exact (below_size (by repeat (first|(with_reducible first|exact HB.out|apply below_alloc|apply pw_below_drewN|apply below_drew1|refine below_set ?_ GE151.out)|exact HB.out))) : w.heap.size ≤ gb152));have n6_ := Aside0.mk ((by rw [hg];exact (below_size (by repeat (first|(with_reducible first|exact HB.out|apply below_alloc|apply pw_below_drewN|apply below_drew1|refine below_set ?_ GE151.out)|exact HB.out))) : w.heap.size ≤ gb152));have n7_ := Aside0.mk ((by rw [hg];exact Nat.ne_of_lt (blk_lt (g := gb151) (o := .cells #[.int .i64 a0_0,.int .i64 a0_1,.int .i64 a0_2,.slice A0_3 l0_3.length c0_3,.slice A0_4 l0_4.length c0_4] 43 (0,0)) (by (with_reducible repeat (first|refine blk_drewN ?_ _|refine blk_drew ?_|refine blk_alloc ?_ _));exact BK151.out)) : gb151 ≠ gb152));have n8_ := Aside0.mk ((by rw [hg];exact Nat.ne_of_gt (blk_lt (g := gb151) (o := .cells #[.int .i64 a0_0,.int .i64 a0_1,.int .i64 a0_2,.slice A0_3 l0_3.length c0_3,.slice A0_4 l0_4.length c0_4] 43 (0,0)) (by (with_reducible repeat (first|refine blk_drewN ?_ _|refine blk_drew ?_|refine blk_alloc ?_ _));exact BK151.out)) : gb152 ≠ gb151));clear HO0_3;clear HO0_4;clear BK151;clear HB;have HO0_3 := n0_;have HO0_4 := n1_;have BK151 := n2_;have HB := n3_;have BK152 := n4_;have GW152 := n5_;have GE152 := n6_;have NB151_152 := n7_;have NB152_151 := n8_;clear n0_ n1_ n2_ n3_ n4_ n5_ n6_ n7_ n8_;clear hb hbox hg;have hnb5 := NB151_152.out;have hnc5 := NB152_151.out;have hcz6_0 : w4.cell? ⟨gb151,0,none⟩ = some (.int .i64 a0_0) := (blk_cell BK151.out 0).trans rfl;have hcz6_1 : w4.cell? ⟨gb151,1,none⟩ = some (.int .i64 a0_1) := (blk_cell BK151.out 1).trans rfl;have hcz6_2 : w4.cell? ⟨gb151,2,none⟩ = some (.int .i64 a0_2) := (blk_cell BK151.out 2).trans rfl;have hcz6_3 : w4.cell? ⟨gb151,3,none⟩ = some (.slice A0_3 l0_3.length c0_3) := (blk_cell BK151.out 3).trans rfl;have hcz6_4 : w4.cell? ⟨gb151,4,none⟩ = some (.slice A0_4 l0_4.length c0_4) := (blk_cell BK151.out 4).trans rfl;have hfz6_0 := blk_frozen BK151.out 0;have hfz6_1 := blk_frozen BK151.out 1;have hfz6_2 := blk_frozen BK151.out 2;have hfz6_3 := blk_frozen BK151.out 3;have hfz6_4 := blk_frozen BK151.out 4))
 (try simp only [Act.put, List.setIfInBounds_toArray, List.set_cons_zero, List.set_cons_succ])
 go_cut [] (fun wc => ∃ (kq : Nat) (x152003_1 : List (S55)) (u152003 : Value),Aside0 (incipitlaw19_Cut.j0 kq a0_0 a0_1 a0_2 x152003_1 l0_4 = some (r1,r2,r3,r4,r5)) ∧ Aside0 (kq ≤ k) ∧ Aside0 (Kd.V k55 55 wc w.heap.size (fun k_ => ((P0_3_ k_ ∨ P0_4_ k_) ∨ w.heap.size ≤ k_) ∧ k_ ≠ gb151 ∧ k_ ≠ gb152) u152003 x152003_1) ∧ Aside0 (Kd.V (Kd.int .i64) 2 wc w.heap.size (fun k_ => ((P0_3_ k_ ∨ P0_4_ k_) ∨ w.heap.size ≤ k_) ∧ k_ ≠ gb151 ∧ k_ ≠ gb152) (.slice A0_4 l0_4.length c0_4) l0_4) ∧ Aside0 (wc.heap[gb151]? = some (.cells #[.int .i64 a0_0,.int .i64 a0_1,.int .i64 a0_2,u152003,(.slice A0_4 l0_4.length c0_4)] 43 (0,0))) ∧ Aside0 (wc.heap[gb152]? = some (.cells #[.int .i64 0,.int .i64 0,.int .i64 0,(.slice none 0 0),(.slice none 0 0)] 43 (0,0))) ∧ Aside0 (Below w.heap.size w wc))
 case first =>
  have H := HC2.out
  clear HC2
  by_cases c7 : (l0_3.length : Int) > 12
  ·rw [if_pos c7] at H
   have c7b0 : decide (12 < (l0_3.length : Int)) = true := decide_eq_true c7
   have c7b1 : decide (12 < l0_3.length) = true := decide_eq_true (by omega)
   clear c7
   (first | rw [c7b0]|(simp only [i64_w, i32_w]; rw [c7b0]) | skip)
   by_cases c8 : 12 ≤ (l0_3.length : Int)
   ·rw [if_pos c8] at H
    have c8b0 := eq_true c8
    have c8b1 : decide (12 ≤ (l0_3.length : Int)) = true := decide_eq_true c8
    clear c8
    obtain ⟨y153, hy153⟩ : ∃ y_ : List (S55), y_ = (l0_3.take 12) := ⟨_, rfl⟩
    replace H : (incipitlaw19_Cut.j0 k a0_0 a0_1 a0_2 y153 l0_4) = some (r1,r2,r3,r4,r5) := by first|(rw [hy153];with_reducible exact H)|(have H2_ := (Option.bind_some _ _).symm.trans H;rw [hy153];with_reducible exact H2_)|(have H2_ := (Option.bind_some _ _).symm.trans H;with_reducible exact H2_) | with_reducible exact H|(rw [hy153];exact H)|exact H
    have Ny153 := Aside0.mk hy153
    clear hy153
    have H' := Aside0.mk H
    clear H
    have hnb9 := NB151_152.out
    have hnc9 := NB152_151.out
    have hcz10_0 : w4.cell? ⟨gb151, 0, none⟩ = some (.int .i64 a0_0) := (blk_cell BK151.out 0).trans rfl
    have hcz10_1 : w4.cell? ⟨gb151, 1, none⟩ = some (.int .i64 a0_1) := (blk_cell BK151.out 1).trans rfl
    have hcz10_2 : w4.cell? ⟨gb151, 2, none⟩ = some (.int .i64 a0_2) := (blk_cell BK151.out 2).trans rfl
    have hcz10_3 : w4.cell? ⟨gb151, 3, none⟩ = some (.slice A0_3 l0_3.length c0_3) := (blk_cell BK151.out 3).trans rfl
    have hcz10_4 : w4.cell? ⟨gb151, 4, none⟩ = some (.slice A0_4 l0_4.length c0_4) := (blk_cell BK151.out 4).trans rfl
    have hfz10_0 := blk_frozen BK151.out 0
    have hfz10_1 := blk_frozen BK151.out 1
    have hfz10_2 := blk_frozen BK151.out 2
    have hfz10_3 := blk_frozen BK151.out 3
    have hfz10_4 := blk_frozen BK151.out 4
    have q11 : (12 : Int) ≤ ((l0_3.length : Int) : Int) := of_decide_eq_true (by first|(with_reducible assumption) | assumption)
    obtain ⟨i011, hi011, _, hsz11, _⟩ := info_parts info55
    have hroom11 : l0_3.length ≤ c0_3 := (Kd.V_reads' HO0_3.out).2.1
    have hC11 : Kd.F k55 _ _ A0_3 l0_3.length l0_3 := (Kd.V_at (base := w.heap.size) HO0_3.out).2.2
    have hcut11 := cut_to (P := Try.prog) 40 55 .i64 Try.underlying40 hi011 A0_3 l0_3.length c0_3 12 (by omega) q11 hroom11
    have hr11 := Kd.F_take (m := 12) hC11 (by omega)
    have hy11 : y153.length = (12 : Int).toNat := (by rw [Ny153.out, List.length_take]; omega)
    rw [← Ny153.out] at hr11
    rw [← hy11] at hcut11
    have HO157 := Aside0.mk (show Kd.V k55 55 _ w.heap.size _ (.slice A0_3 y153.length c0_3) y153 from Kd.V_mk (by omega) hr11)
    have HC157 := Aside0.mk (show y153.length ≤ c0_3 from by omega)
    clear hr11 hC11 hroom11 hi011 hsz11
    have KY11 := Aside0.mk hy11
    clear hy11
    replace q11 := eq_true q11
    go_wp2
    go_meet
    case rel => exact ⟨_,(y153),(.slice A0_3 y153.length c0_3),H',⟨by first | omega|exact Nat.le_refl _⟩,⟨by (with_reducible repeat (first|apply Kd.V_alloc|apply Kd.V_drewN|apply Kd.V_drew));exact Kd.V_mono (Kd.V_far (p := ⟨gb151,3,none⟩) (Kd.V_mono HO157.out (fun k_ hk => (⟨hk,hk.1.2⟩ : _ ∧ k_ ≠ gb151))) (fun _ hk => hk.2) (.slice A0_3 y153.length c0_3)) (fun _ hk => ⟨hk.1.1.1,⟨hk.1.1.2,hk.1.2⟩⟩)⟩,⟨by (with_reducible repeat (first|apply Kd.V_alloc|apply Kd.V_drewN|apply Kd.V_drew));exact Kd.V_mono (Kd.V_far (p := ⟨gb151,3,none⟩) (Kd.V_mono HO0_4.out (fun k_ hk => (⟨hk,hk.1.2⟩ : _ ∧ k_ ≠ gb151))) (fun _ hk => hk.2) (.slice A0_3 y153.length c0_3)) (fun _ hk => ⟨hk.1.1.1,⟨hk.1.1.2,hk.1.2⟩⟩)⟩,⟨by (with_reducible repeat (first|refine blk_drewN ?_ _|refine blk_drew ?_|refine blk_alloc ?_ _));refine blk_put (cs := #[.int .i64 a0_0,.int .i64 a0_1,.int .i64 a0_2,.slice A0_3 l0_3.length c0_3,.slice A0_4 l0_4.length c0_4]) ?_ 3 _ rfl;(with_reducible repeat (first|refine blk_drewN ?_ _|refine blk_drew ?_|refine blk_alloc ?_ _));exact BK151.out⟩,⟨by (with_reducible repeat (first|refine blk_drewN ?_ _|refine blk_drew ?_|refine blk_alloc ?_ _));refine blk_far ?_ NB152_151.out _;(with_reducible repeat (first|refine blk_drewN ?_ _|refine blk_drew ?_|refine blk_alloc ?_ _));exact BK152.out⟩,⟨by repeat (first|(with_reducible first|exact HB.out|apply below_alloc|apply pw_below_drewN|apply below_drew1|refine below_set ?_ GE151.out|refine below_set ?_ GE152.out)|exact HB.out)⟩⟩
   ·rw [if_neg c8] at H
    exact absurd H (by simp)
  ·rw [if_neg c7] at H
   have c7b0 : decide (12 < (l0_3.length : Int)) = false := decide_eq_false c7
   have c7b1 : decide (12 < l0_3.length) = false := decide_eq_false (by omega)
   clear c7
   (first | rw [c7b0]|(simp only [i64_w, i32_w]; rw [c7b0]) | skip)
   have H' := Aside0.mk H
   clear H
   go_wp2
   go_meet
   case rel => exact ⟨_,(l0_3),(.slice A0_3 l0_3.length c0_3),H',⟨by first | omega|exact Nat.le_refl _⟩,⟨by (with_reducible repeat (first|apply Kd.V_alloc|apply Kd.V_drewN|apply Kd.V_drew));exact Kd.V_mono HO0_3.out (fun _ hk => ⟨hk.1.1,⟨hk.1.2,hk.2⟩⟩)⟩,⟨by (with_reducible repeat (first|apply Kd.V_alloc|apply Kd.V_drewN|apply Kd.V_drew));exact Kd.V_mono HO0_4.out (fun _ hk => ⟨hk.1.1,⟨hk.1.2,hk.2⟩⟩)⟩,⟨by (with_reducible repeat (first|refine blk_drewN ?_ _|refine blk_drew ?_|refine blk_alloc ?_ _));exact BK151.out⟩,⟨by (with_reducible repeat (first|refine blk_drewN ?_ _|refine blk_drew ?_|refine blk_alloc ?_ _));exact BK152.out⟩,⟨by repeat (first|(with_reducible first|exact HB.out|apply below_alloc|apply pw_below_drewN|apply below_drew1|refine below_set ?_ GE151.out|refine below_set ?_ GE152.out)|exact HB.out)⟩⟩
 case rest =>
  clear HC2
  try clear q1
  try clear c2
  try clear p2
  try clear c5
  try clear c7
  try clear c7b0
  try clear c7b1
  try clear c8
  try clear c8b0
  try clear c8b1
  try clear c9
  try clear q11
  try clear hcz10_0
  try clear hcz10_1
  try clear hcz10_2
  try clear hcz10_3
  try clear hcz10_4
  try clear hcz6_0
  try clear hcz6_1
  try clear hcz6_2
  try clear hcz6_3
  try clear hcz6_4
  try clear hfz10_0
  try clear hfz10_1
  try clear hfz10_2
  try clear hfz10_3
  try clear hfz10_4
  try clear hfz6_0
  try clear hfz6_1
  try clear hfz6_2
  try clear hfz6_3
  try clear hfz6_4
  try clear q11
  obtain ⟨kq, x152003_1, u152003, HA, HJ1, HO_152003, HO_152004, BK151, BK152, HB⟩ := hcut
  cases kq with
  | zero => exact absurd HA.out (by simp [incipitlaw19_Cut.j0])
  | succ kj1 =>
   have H := HA.out
   clear HA
   simp only [incipitlaw19_Cut.j0] at H
   have H' := Aside0.mk H
   clear H
   go_wp2
   go_loopg [3,4] kj1 (fun kq v3 v4 w' => ∃ (x3_2 : List (S55)) (x4_2 : Int),v4 = .int .i64 x4_2 ∧ Aside0 (incipitlaw19_Cut.l0 kq x3_2 x4_2 a0_0 a0_1 a0_2 x152003_1 l0_4 = some (r1,r2,r3,r4,r5)) ∧ Aside0 (kq ≤ kj1) ∧ Aside0 (Kd.R k55 55 w' w.heap.size (fun k_ => (w.heap.size ≤ k_)) v3 x3_2) ∧ Aside0 (Kd.V k55 55 w' w.heap.size (fun k_ => ((P0_3_ k_ ∨ P0_4_ k_) ∨ w.heap.size ≤ k_) ∧ some k_ ≠ (v3 : Value).ownBlock ∧ k_ ≠ gb151 ∧ k_ ≠ gb152) u152003 x152003_1) ∧ Aside0 (Kd.V (Kd.int .i64) 2 w' w.heap.size (fun k_ => ((P0_3_ k_ ∨ P0_4_ k_) ∨ w.heap.size ≤ k_) ∧ some k_ ≠ (v3 : Value).ownBlock ∧ k_ ≠ gb151 ∧ k_ ≠ gb152) (.slice A0_4 l0_4.length c0_4) l0_4) ∧ Aside0 (w'.heap[gb151]? = some (.cells #[.int .i64 a0_0,.int .i64 a0_1,.int .i64 a0_2,u152003,(.slice A0_4 l0_4.length c0_4)] 43 (0,0))) ∧ Aside0 (w'.heap[gb152]? = some (.cells #[.int .i64 0,.int .i64 0,.int .i64 0,(.slice none 0 0),(.slice none 0 0)] 43 (0,0))) ∧ Aside0 (Below w.heap.size w w'))
   case atStart => exact ⟨(([] : List (S55))),(0),(by first | rfl|(simp;done)|(simp [*];done)),H',⟨Nat.le_refl _⟩,⟨by first|exact Kd.R_nil _ _ _ _ _|exact Kd.N_nil _ _ _ _ _|exact Kd.V_nil _ _ _ _ _|exact Kd.Q_nil _ _ _ _ _|exact Kd.S_nil _ _ _ _ _⟩,⟨by (with_reducible repeat (first|apply Kd.V_alloc|apply Kd.V_drewN|apply Kd.V_drew));exact Kd.V_mono HO_152003.out (fun _ hk => ⟨hk.1,⟨(by simp [Value.ownBlock]),⟨hk.2.1,hk.2.2⟩⟩⟩)⟩,⟨by (with_reducible repeat (first|apply Kd.V_alloc|apply Kd.V_drewN|apply Kd.V_drew));exact Kd.V_mono HO_152004.out (fun _ hk => ⟨hk.1,⟨(by simp [Value.ownBlock]),⟨hk.2.1,hk.2.2⟩⟩⟩)⟩,⟨by (with_reducible repeat (first|refine blk_drewN ?_ _|refine blk_drew ?_|refine blk_alloc ?_ _));exact BK151.out⟩,⟨by (with_reducible repeat (first|refine blk_drewN ?_ _|refine blk_drew ?_|refine blk_alloc ?_ _));exact BK152.out⟩,⟨by repeat (first|(with_reducible first|exact HB.out|apply below_alloc|apply pw_below_drewN|apply below_drew1|refine below_set ?_ GE151.out|refine below_set ?_ GE152.out)|exact HB.out)⟩⟩
   case round =>
    clear H'
    try clear q1
    try clear c2
    try clear p2
    try clear c5
    try clear c7
    try clear c7b0
    try clear c7b1
    try clear c8
    try clear c8b0
    try clear c8b1
    try clear c9
    try clear q11
    try clear hcz10_0
    try clear hcz10_1
    try clear hcz10_2
    try clear hcz10_3
    try clear hcz10_4
    try clear hcz6_0
    try clear hcz6_1
    try clear hcz6_2
    try clear hcz6_3
    try clear hcz6_4
    try clear hfz10_0
    try clear hfz10_1
    try clear hfz10_2
    try clear hfz10_3
    try clear hfz10_4
    try clear hfz6_0
    try clear hfz6_1
    try clear hfz6_2
    try clear hfz6_3
    try clear hfz6_4
    try clear p2
    try clear q1
    try clear q11
    obtain ⟨x3_2, x4_2, rfl, HA, HK2, HO_3, HO_152003, HO_152004, BK151, BK152, HB⟩ := hrel
    cases gk with
    | zero => exact absurd HA.out (by simp [incipitlaw19_Cut.l0])
    | succ k2 =>
     have H := HA.out
     clear HA
     simp only [incipitlaw19_Cut.l0] at H
     by_cases c12 : x4_2 < (x152003_1.length : Int)
     ·rw [if_pos c12] at H
      have c12b0 : decide (x4_2 < (x152003_1.length : Int)) = true := decide_eq_true c12
      clear c12
      by_cases c13 : 0 ≤ x4_2
      ·rw [if_pos c13] at H
       have c13b0 : decide (0 ≤ x4_2) = true := decide_eq_true c13
       clear c13
       replace H := Option.bind_eq_some_iff.mp H
       obtain ⟨t160, A140, H⟩ := H
       replace H : ((incipitlaw1_Cut.f ((rd_T55 x152003_1 x4_2).f4) 20).bind fun t161 => (if x3_2.length < 2513169434916 then (incipitlaw19_Cut.l0 k2 (x3_2 ++ [(⟨(rd_T55 x152003_1 x4_2).f0,(rd_T55 x152003_1 x4_2).f1,(rd_T55 x152003_1 x4_2).f2,t160,t161⟩ : S55)]) (wrap64 (x4_2 + 1)) a0_0 a0_1 a0_2 x152003_1 l0_4) else (none))) = some (r1,r2,r3,r4,r5) := H
       have A14 := Aside0.mk A140
       clear A140
       replace H := Option.bind_eq_some_iff.mp H
       obtain ⟨t161, A150, H⟩ := H
       replace H : (if x3_2.length < 2513169434916 then (incipitlaw19_Cut.l0 k2 (x3_2 ++ [(⟨(rd_T55 x152003_1 x4_2).f0,(rd_T55 x152003_1 x4_2).f1,(rd_T55 x152003_1 x4_2).f2,t160,t161⟩ : S55)]) (wrap64 (x4_2 + 1)) a0_0 a0_1 a0_2 x152003_1 l0_4) else (none)) = some (r1,r2,r3,r4,r5) := H
       have A15 := Aside0.mk A150
       clear A150
       by_cases c16 : x3_2.length < 2513169434916
       ·rw [if_pos c16] at H
        have LMc16 := Aside0.mk c16
        clear c16
        obtain ⟨y162, hy162⟩ : ∃ y_ : List (S55), y_ = (x3_2 ++ [(⟨(rd_T55 x152003_1 x4_2).f0, (rd_T55 x152003_1 x4_2).f1, (rd_T55 x152003_1 x4_2).f2, t160, t161⟩ : S55)]) := ⟨_, rfl⟩
        replace H : (incipitlaw19_Cut.l0 k2 y162 (wrap64 (x4_2 + 1)) a0_0 a0_1 a0_2 x152003_1 l0_4) = some (r1,r2,r3,r4,r5) := by first|(rw [hy162];with_reducible exact H)|(have H2_ := (Option.bind_some _ _).symm.trans H;rw [hy162];with_reducible exact H2_)|(have H2_ := (Option.bind_some _ _).symm.trans H;with_reducible exact H2_) | with_reducible exact H|(rw [hy162];exact H)|exact H
        have Ny162 := Aside0.mk hy162
        clear hy162
        have H' := Aside0.mk H
        clear H
        have hnb17 := NB151_152.out
        have hnc17 := NB152_151.out
        have hcz18_0 : wr.cell? ⟨gb151, 0, none⟩ = some (.int .i64 a0_0) := (blk_cell BK151.out 0).trans rfl
        have hcz18_1 : wr.cell? ⟨gb151, 1, none⟩ = some (.int .i64 a0_1) := (blk_cell BK151.out 1).trans rfl
        have hcz18_2 : wr.cell? ⟨gb151, 2, none⟩ = some (.int .i64 a0_2) := (blk_cell BK151.out 2).trans rfl
        have hcz18_3 : wr.cell? ⟨gb151, 3, none⟩ = some (u152003) := (blk_cell BK151.out 3).trans rfl
        have hcz18_4 : wr.cell? ⟨gb151, 4, none⟩ = some (.slice A0_4 l0_4.length c0_4) := (blk_cell BK151.out 4).trans rfl
        have hfz18_0 := blk_frozen BK151.out 0
        have hfz18_1 := blk_frozen BK151.out 1
        have hfz18_2 := blk_frozen BK151.out 2
        have hfz18_3 := blk_frozen BK151.out 3
        have hfz18_4 := blk_frozen BK151.out 4
        obtain ⟨Ao19, co19, eo19⟩ := Kd.V_slice HO_152003.out
        subst eo19
        have p158 : 0 ≤ (x4_2 : Int) := of_decide_eq_true (by first|(with_reducible assumption) | assumption)
        have q158 : x4_2 < (x152003_1.length : Int) := of_decide_eq_true (by first|(with_reducible assumption) | assumption)
        obtain ⟨ad158, e158, hx158_0, hx158_1, hx158_2, hx158_3, hx158_4⟩ := at_T55 (Kd.V_reads' HO_152003.out).2.2 x4_2 p158 q158
        cases e158
        replace p158 := eq_true p158
        replace q158 := eq_true q158
        try go_wp2_with (first|((with_reducible refine gate_dst (N := 5) rfl ?_);refine box_event ?hg (N := 5) ?hd (cs := #[.int .i64 0,.int .i64 0,.int .i64 0,.string (⟨#[]⟩ : ByteArray),.string (⟨#[]⟩ : ByteArray)]) (t := 55) ?hr ?_;(case hd => rfl);(case hg => rfl);(case hr => first|(go_simp;done)|(go_simp;rfl));intro gb159 hg w20 hbox hb;have n0_ := Aside0.mk (Kd.R_below (Kd.R_elderB (by (with_reducible repeat (first|apply Kd.R_alloc|apply Kd.R_drewN|apply Kd.R_drew));exact HO_3.out) gb159 (Nat.le_of_eq hg.symm)) hb);have n1_ := Aside0.mk (Kd.V_below (Kd.V_elderB (by (with_reducible repeat (first|apply Kd.V_alloc|apply Kd.V_drewN|apply Kd.V_drew));exact HO_152003.out) gb159 (Nat.le_of_eq hg.symm)) hb);have n2_ := Aside0.mk (Kd.V_below (Kd.V_elderB (by (with_reducible repeat (first|apply Kd.V_alloc|apply Kd.V_drewN|apply Kd.V_drew));exact HO_152004.out) gb159 (Nat.le_of_eq hg.symm)) hb);have n3_ := Aside0.mk (blk_below (g := gb151) (o := .cells #[.int .i64 a0_0,.int .i64 a0_1,.int .i64 a0_2,.slice (some ad158) x152003_1.length co19,.slice A0_4 l0_4.length c0_4] 43 (0,0)) (by (with_reducible repeat (first|refine blk_drewN ?_ _|refine blk_drew ?_|refine blk_alloc ?_ _));exact BK151.out) hb);have n4_ := Aside0.mk (blk_below (g := gb152) (o := .cells #[.int .i64 0,.int .i64 0,.int .i64 0,.slice none 0 0,.slice none 0 0] 43 (0,0)) (by (with_reducible repeat (first|refine blk_drewN ?_ _|refine blk_drew ?_|refine blk_alloc ?_ _));exact BK152.out) hb);have n5_ := Aside0.mk (below_step (by repeat (first|(with_reducible first|exact HB.out|apply below_alloc|apply pw_below_drewN|apply below_drew1|refine below_set ?_ GE151.out|refine below_set ?_ GE152.out)|exact HB.out)) hb);have n6_ := Aside0.mk (hbox);have n7_ := Aside0.mk ((by rw [hg];exact (below_size (by repeat (first|(with_reducible first|exact HB.out|apply below_alloc|apply pw_below_drewN|apply below_drew1|refine below_set ?_ GE151.out|refine below_set ?_ GE152.out)|exact HB.out))) : w.heap.size ≤ gb159));have n8_ := Aside0.mk ((by rw [hg];exact (below_size (by repeat (first|(with_reducible first|exact HB.out|apply below_alloc|apply pw_below_drewN|apply below_drew1|refine below_set ?_ GE151.out|refine below_set ?_ GE152.out)|exact HB.out))) : w.heap.size ≤ gb159));have n9_ := Aside0.mk ((by rw [hg];exact Nat.ne_of_lt (blk_lt (g := gb151) (o := .cells #[.int .i64 a0_0,.int .i64 a0_1,.int .i64 a0_2,.slice (some ad158) x152003_1.length co19,.slice A0_4 l0_4.length c0_4] 43 (0,0)) (by (with_reducible repeat (first|refine blk_drewN ?_ _|refine blk_drew ?_|refine blk_alloc ?_ _));exact BK151.out)) : gb151 ≠ gb159));have n10_ := Aside0.mk ((by rw [hg];exact Nat.ne_of_gt (blk_lt (g := gb151) (o := .cells #[.int .i64 a0_0,.int .i64 a0_1,.int .i64 a0_2,.slice (some ad158) x152003_1.length co19,.slice A0_4 l0_4.length c0_4] 43 (0,0)) (by (with_reducible repeat (first|refine blk_drewN ?_ _|refine blk_drew ?_|refine blk_alloc ?_ _));exact BK151.out)) : gb159 ≠ gb151));have n11_ := Aside0.mk ((by rw [hg];exact Nat.ne_of_lt (blk_lt (g := gb152) (o := .cells #[.int .i64 0,.int .i64 0,.int .i64 0,.slice none 0 0,.slice none 0 0] 43 (0,0)) (by (with_reducible repeat (first|refine blk_drewN ?_ _|refine blk_drew ?_|refine blk_alloc ?_ _));exact BK152.out)) : gb152 ≠ gb159));have n12_ := Aside0.mk ((by rw [hg];exact Nat.ne_of_gt (blk_lt (g := gb152) (o := .cells #[.int .i64 0,.int .i64 0,.int .i64 0,.slice none 0 0,.slice none 0 0] 43 (0,0)) (by (with_reducible repeat (first|refine blk_drewN ?_ _|refine blk_drew ?_|refine blk_alloc ?_ _));exact BK152.out)) : gb159 ≠ gb152));clear HO_3;clear HO_152003;clear HO_152004;clear BK151;clear BK152;clear HB;have HO_3 := n0_;have HO_152003 := n1_;have HO_152004 := n2_;have BK151 := n3_;have BK152 := n4_;have HB := n5_;have BK159 := n6_;have GW159 := n7_;have GE159 := n8_;have NB151_159 := n9_;have NB159_151 := n10_;have NB152_159 := n11_;have NB159_152 := n12_;clear n0_ n1_ n2_ n3_ n4_ n5_ n6_ n7_ n8_ n9_ n10_ n11_ n12_;clear hb hbox hg;have hnb21 := NB159_151.out;have hnc21 := NB151_159.out;have hnb22 := NB159_152.out;have hnc22 := NB152_159.out;have hcz23_0 : w20.cell? ⟨gb159,0,none⟩ = some (.int .i64 0) := (blk_cell BK159.out 0).trans rfl;have hcz23_1 : w20.cell? ⟨gb159,1,none⟩ = some (.int .i64 0) := (blk_cell BK159.out 1).trans rfl;have hcz23_2 : w20.cell? ⟨gb159,2,none⟩ = some (.int .i64 0) := (blk_cell BK159.out 2).trans rfl;have hcz23_3 : w20.cell? ⟨gb159,3,none⟩ = some (.string (⟨#[]⟩ : ByteArray)) := (blk_cell BK159.out 3).trans rfl;have hcz23_4 : w20.cell? ⟨gb159,4,none⟩ = some (.string (⟨#[]⟩ : ByteArray)) := (blk_cell BK159.out 4).trans rfl;have hfz23_0 := blk_frozen BK159.out 0;have hfz23_1 := blk_frozen BK159.out 1;have hfz23_2 := blk_frozen BK159.out 2;have hfz23_3 := blk_frozen BK159.out 3;have hfz23_4 := blk_frozen BK159.out 4))
        have n0_ : Aside0 (Kd.R k55 55 (((((w20.setCell ⟨gb159,0,none⟩ (.int .i64 ((rd_T55 x152003_1 x4_2).f0))).setCell ⟨gb159,1,none⟩ (.int .i64 ((rd_T55 x152003_1 x4_2).f1))).setCell ⟨gb159,2,none⟩ (.int .i64 ((rd_T55 x152003_1 x4_2).f2))).setCell ⟨gb159,3,none⟩ (.string ((rd_T55 x152003_1 x4_2).f3))).setCell ⟨gb159,4,none⟩ (.string ((rd_T55 x152003_1 x4_2).f4))) w.heap.size (fun k_ => (w.heap.size ≤ k_) ∧ k_ ≠ gb159) u3 x3_2) := ⟨by (with_reducible repeat (first|apply Kd.R_alloc|apply Kd.R_drewN|apply Kd.R_drew));exact Kd.R_mono (Kd.R_far (p := ⟨gb159,4,none⟩) (Kd.R_far (p := ⟨gb159,3,none⟩) (Kd.R_far (p := ⟨gb159,2,none⟩) (Kd.R_far (p := ⟨gb159,1,none⟩) (Kd.R_far (p := ⟨gb159,0,none⟩) (Kd.R_mono HO_3.out (fun k_ hk => (⟨hk,hk.2⟩ : _ ∧ k_ ≠ gb159))) (fun _ hk => hk.2) (.int .i64 ((rd_T55 x152003_1 x4_2).f0))) (fun _ hk => hk.2) (.int .i64 ((rd_T55 x152003_1 x4_2).f1))) (fun _ hk => hk.2) (.int .i64 ((rd_T55 x152003_1 x4_2).f2))) (fun _ hk => hk.2) (.string ((rd_T55 x152003_1 x4_2).f3))) (fun _ hk => hk.2) (.string ((rd_T55 x152003_1 x4_2).f4))) (fun _ hk => ⟨hk.1.1,hk.1.2⟩)⟩
        have n1_ : Aside0 (Kd.V k55 55 (((((w20.setCell ⟨gb159,0,none⟩ (.int .i64 ((rd_T55 x152003_1 x4_2).f0))).setCell ⟨gb159,1,none⟩ (.int .i64 ((rd_T55 x152003_1 x4_2).f1))).setCell ⟨gb159,2,none⟩ (.int .i64 ((rd_T55 x152003_1 x4_2).f2))).setCell ⟨gb159,3,none⟩ (.string ((rd_T55 x152003_1 x4_2).f3))).setCell ⟨gb159,4,none⟩ (.string ((rd_T55 x152003_1 x4_2).f4))) w.heap.size (fun k_ => ((P0_3_ k_ ∨ P0_4_ k_) ∨ w.heap.size ≤ k_) ∧ some k_ ≠ (u3 : Value).ownBlock ∧ k_ ≠ gb151 ∧ k_ ≠ gb152 ∧ k_ ≠ gb159) (.slice (some ad158) x152003_1.length co19) x152003_1) := ⟨by (with_reducible repeat (first|apply Kd.V_alloc|apply Kd.V_drewN|apply Kd.V_drew));exact Kd.V_mono (Kd.V_far (p := ⟨gb159,4,none⟩) (Kd.V_far (p := ⟨gb159,3,none⟩) (Kd.V_far (p := ⟨gb159,2,none⟩) (Kd.V_far (p := ⟨gb159,1,none⟩) (Kd.V_far (p := ⟨gb159,0,none⟩) (Kd.V_mono HO_152003.out (fun k_ hk => (⟨hk,hk.2⟩ : _ ∧ k_ ≠ gb159))) (fun _ hk => hk.2) (.int .i64 ((rd_T55 x152003_1 x4_2).f0))) (fun _ hk => hk.2) (.int .i64 ((rd_T55 x152003_1 x4_2).f1))) (fun _ hk => hk.2) (.int .i64 ((rd_T55 x152003_1 x4_2).f2))) (fun _ hk => hk.2) (.string ((rd_T55 x152003_1 x4_2).f3))) (fun _ hk => hk.2) (.string ((rd_T55 x152003_1 x4_2).f4))) (fun _ hk => ⟨hk.1.1.1,⟨hk.1.1.2.1,⟨hk.1.1.2.2.1,⟨hk.1.1.2.2.2,hk.1.2⟩⟩⟩⟩)⟩
        have n2_ : Aside0 (Kd.V (Kd.int .i64) 2 (((((w20.setCell ⟨gb159,0,none⟩ (.int .i64 ((rd_T55 x152003_1 x4_2).f0))).setCell ⟨gb159,1,none⟩ (.int .i64 ((rd_T55 x152003_1 x4_2).f1))).setCell ⟨gb159,2,none⟩ (.int .i64 ((rd_T55 x152003_1 x4_2).f2))).setCell ⟨gb159,3,none⟩ (.string ((rd_T55 x152003_1 x4_2).f3))).setCell ⟨gb159,4,none⟩ (.string ((rd_T55 x152003_1 x4_2).f4))) w.heap.size (fun k_ => ((P0_3_ k_ ∨ P0_4_ k_) ∨ w.heap.size ≤ k_) ∧ some k_ ≠ (u3 : Value).ownBlock ∧ k_ ≠ gb151 ∧ k_ ≠ gb152 ∧ k_ ≠ gb159) (.slice A0_4 l0_4.length c0_4) l0_4) := ⟨by (with_reducible repeat (first|apply Kd.V_alloc|apply Kd.V_drewN|apply Kd.V_drew));exact Kd.V_mono (Kd.V_far (p := ⟨gb159,4,none⟩) (Kd.V_far (p := ⟨gb159,3,none⟩) (Kd.V_far (p := ⟨gb159,2,none⟩) (Kd.V_far (p := ⟨gb159,1,none⟩) (Kd.V_far (p := ⟨gb159,0,none⟩) (Kd.V_mono HO_152004.out (fun k_ hk => (⟨hk,hk.2⟩ : _ ∧ k_ ≠ gb159))) (fun _ hk => hk.2) (.int .i64 ((rd_T55 x152003_1 x4_2).f0))) (fun _ hk => hk.2) (.int .i64 ((rd_T55 x152003_1 x4_2).f1))) (fun _ hk => hk.2) (.int .i64 ((rd_T55 x152003_1 x4_2).f2))) (fun _ hk => hk.2) (.string ((rd_T55 x152003_1 x4_2).f3))) (fun _ hk => hk.2) (.string ((rd_T55 x152003_1 x4_2).f4))) (fun _ hk => ⟨hk.1.1.1,⟨hk.1.1.2.1,⟨hk.1.1.2.2.1,⟨hk.1.1.2.2.2,hk.1.2⟩⟩⟩⟩)⟩
        have n3_ : Aside0 ((((((w20.setCell ⟨gb159,0,none⟩ (.int .i64 ((rd_T55 x152003_1 x4_2).f0))).setCell ⟨gb159,1,none⟩ (.int .i64 ((rd_T55 x152003_1 x4_2).f1))).setCell ⟨gb159,2,none⟩ (.int .i64 ((rd_T55 x152003_1 x4_2).f2))).setCell ⟨gb159,3,none⟩ (.string ((rd_T55 x152003_1 x4_2).f3))).setCell ⟨gb159,4,none⟩ (.string ((rd_T55 x152003_1 x4_2).f4))).heap[gb151]? = some (.cells #[.int .i64 a0_0,.int .i64 a0_1,.int .i64 a0_2,.slice (some ad158) x152003_1.length co19,.slice A0_4 l0_4.length c0_4] 43 (0,0))) := ⟨by (with_reducible repeat (first|refine blk_drewN ?_ _|refine blk_drew ?_|refine blk_alloc ?_ _));refine blk_far ?_ NB151_159.out _;(with_reducible repeat (first|refine blk_drewN ?_ _|refine blk_drew ?_|refine blk_alloc ?_ _));refine blk_far ?_ NB151_159.out _;(with_reducible repeat (first|refine blk_drewN ?_ _|refine blk_drew ?_|refine blk_alloc ?_ _));refine blk_far ?_ NB151_159.out _;(with_reducible repeat (first|refine blk_drewN ?_ _|refine blk_drew ?_|refine blk_alloc ?_ _));refine blk_far ?_ NB151_159.out _;(with_reducible repeat (first|refine blk_drewN ?_ _|refine blk_drew ?_|refine blk_alloc ?_ _));refine blk_far ?_ NB151_159.out _;(with_reducible repeat (first|refine blk_drewN ?_ _|refine blk_drew ?_|refine blk_alloc ?_ _));exact BK151.out⟩
        have n4_ : Aside0 ((((((w20.setCell ⟨gb159,0,none⟩ (.int .i64 ((rd_T55 x152003_1 x4_2).f0))).setCell ⟨gb159,1,none⟩ (.int .i64 ((rd_T55 x152003_1 x4_2).f1))).setCell ⟨gb159,2,none⟩ (.int .i64 ((rd_T55 x152003_1 x4_2).f2))).setCell ⟨gb159,3,none⟩ (.string ((rd_T55 x152003_1 x4_2).f3))).setCell ⟨gb159,4,none⟩ (.string ((rd_T55 x152003_1 x4_2).f4))).heap[gb152]? = some (.cells #[.int .i64 0,.int .i64 0,.int .i64 0,.slice none 0 0,.slice none 0 0] 43 (0,0))) := ⟨by (with_reducible repeat (first|refine blk_drewN ?_ _|refine blk_drew ?_|refine blk_alloc ?_ _));refine blk_far ?_ NB152_159.out _;(with_reducible repeat (first|refine blk_drewN ?_ _|refine blk_drew ?_|refine blk_alloc ?_ _));refine blk_far ?_ NB152_159.out _;(with_reducible repeat (first|refine blk_drewN ?_ _|refine blk_drew ?_|refine blk_alloc ?_ _));refine blk_far ?_ NB152_159.out _;(with_reducible repeat (first|refine blk_drewN ?_ _|refine blk_drew ?_|refine blk_alloc ?_ _));refine blk_far ?_ NB152_159.out _;(with_reducible repeat (first|refine blk_drewN ?_ _|refine blk_drew ?_|refine blk_alloc ?_ _));refine blk_far ?_ NB152_159.out _;(with_reducible repeat (first|refine blk_drewN ?_ _|refine blk_drew ?_|refine blk_alloc ?_ _));exact BK152.out⟩
        have n5_ : Aside0 ((((((w20.setCell ⟨gb159,0,none⟩ (.int .i64 ((rd_T55 x152003_1 x4_2).f0))).setCell ⟨gb159,1,none⟩ (.int .i64 ((rd_T55 x152003_1 x4_2).f1))).setCell ⟨gb159,2,none⟩ (.int .i64 ((rd_T55 x152003_1 x4_2).f2))).setCell ⟨gb159,3,none⟩ (.string ((rd_T55 x152003_1 x4_2).f3))).setCell ⟨gb159,4,none⟩ (.string ((rd_T55 x152003_1 x4_2).f4))).heap[gb159]? = some (.cells #[.int .i64 ((rd_T55 x152003_1 x4_2).f0),.int .i64 ((rd_T55 x152003_1 x4_2).f1),.int .i64 ((rd_T55 x152003_1 x4_2).f2),.string ((rd_T55 x152003_1 x4_2).f3),.string ((rd_T55 x152003_1 x4_2).f4)] 55 (0,0))) := ⟨by (with_reducible repeat (first|refine blk_drewN ?_ _|refine blk_drew ?_|refine blk_alloc ?_ _));refine blk_put (cs := #[.int .i64 ((rd_T55 x152003_1 x4_2).f0),.int .i64 ((rd_T55 x152003_1 x4_2).f1),.int .i64 ((rd_T55 x152003_1 x4_2).f2),.string ((rd_T55 x152003_1 x4_2).f3),.string (⟨#[]⟩ : ByteArray)]) ?_ 4 _ rfl;(with_reducible repeat (first|refine blk_drewN ?_ _|refine blk_drew ?_|refine blk_alloc ?_ _));refine blk_put (cs := #[.int .i64 ((rd_T55 x152003_1 x4_2).f0),.int .i64 ((rd_T55 x152003_1 x4_2).f1),.int .i64 ((rd_T55 x152003_1 x4_2).f2),.string (⟨#[]⟩ : ByteArray),.string (⟨#[]⟩ : ByteArray)]) ?_ 3 _ rfl;(with_reducible repeat (first|refine blk_drewN ?_ _|refine blk_drew ?_|refine blk_alloc ?_ _));refine blk_put (cs := #[.int .i64 ((rd_T55 x152003_1 x4_2).f0),.int .i64 ((rd_T55 x152003_1 x4_2).f1),.int .i64 0,.string (⟨#[]⟩ : ByteArray),.string (⟨#[]⟩ : ByteArray)]) ?_ 2 _ rfl;(with_reducible repeat (first|refine blk_drewN ?_ _|refine blk_drew ?_|refine blk_alloc ?_ _));refine blk_put (cs := #[.int .i64 ((rd_T55 x152003_1 x4_2).f0),.int .i64 0,.int .i64 0,.string (⟨#[]⟩ : ByteArray),.string (⟨#[]⟩ : ByteArray)]) ?_ 1 _ rfl;(with_reducible repeat (first|refine blk_drewN ?_ _|refine blk_drew ?_|refine blk_alloc ?_ _));refine blk_put (cs := #[.int .i64 0,.int .i64 0,.int .i64 0,.string (⟨#[]⟩ : ByteArray),.string (⟨#[]⟩ : ByteArray)]) ?_ 0 _ rfl;(with_reducible repeat (first|refine blk_drewN ?_ _|refine blk_drew ?_|refine blk_alloc ?_ _));exact BK159.out⟩
        have n6_ : Aside0 (Below w.heap.size w (((((w20.setCell ⟨gb159,0,none⟩ (.int .i64 ((rd_T55 x152003_1 x4_2).f0))).setCell ⟨gb159,1,none⟩ (.int .i64 ((rd_T55 x152003_1 x4_2).f1))).setCell ⟨gb159,2,none⟩ (.int .i64 ((rd_T55 x152003_1 x4_2).f2))).setCell ⟨gb159,3,none⟩ (.string ((rd_T55 x152003_1 x4_2).f3))).setCell ⟨gb159,4,none⟩ (.string ((rd_T55 x152003_1 x4_2).f4)))) := ⟨by repeat (first|(with_reducible first|exact HB.out|apply below_alloc|apply pw_below_drewN|apply below_drew1|refine below_set ?_ GE151.out|refine below_set ?_ GE152.out|refine below_set ?_ GE159.out)|exact HB.out)⟩
        (try clear HO_3)
        (try clear HO_152003)
        (try clear HO_152004)
        (try clear BK151)
        (try clear BK152)
        (try clear BK159)
        (try clear HB)
        generalize (((((w20.setCell ⟨gb159,0,none⟩ (.int .i64 ((rd_T55 x152003_1 x4_2).f0))).setCell ⟨gb159,1,none⟩ (.int .i64 ((rd_T55 x152003_1 x4_2).f1))).setCell ⟨gb159,2,none⟩ (.int .i64 ((rd_T55 x152003_1 x4_2).f2))).setCell ⟨gb159,3,none⟩ (.string ((rd_T55 x152003_1 x4_2).f3))).setCell ⟨gb159,4,none⟩ (.string ((rd_T55 x152003_1 x4_2).f4))) = w24 at n0_ n1_ n2_ n3_ n4_ n5_ n6_ ⊢
        have HO_3 := n0_
        have HO_152003 := n1_
        have HO_152004 := n2_
        have BK151 := n3_
        have BK152 := n4_
        have BK159 := n5_
        have HB := n6_
        clear n0_ n1_ n2_ n3_ n4_ n5_ n6_
        have n0_ := Aside0.mk (Kd.R_drew HO_3.out)
        have n1_ := Aside0.mk (Kd.V_drew HO_152003.out)
        have n2_ := Aside0.mk (Kd.V_drew HO_152004.out)
        have n3_ := Aside0.mk (blk_drew BK151.out)
        have n4_ := Aside0.mk (blk_drew BK152.out)
        have n5_ := Aside0.mk (blk_drew BK159.out)
        have n6_ := Aside0.mk (below_drew1 HB.out)
        clear HO_3
        clear HO_152003
        clear HO_152004
        clear BK151
        clear BK152
        clear BK159
        clear HB
        have HO_3 := n0_
        have HO_152003 := n1_
        have HO_152004 := n2_
        have BK151 := n3_
        have BK152 := n4_
        have BK159 := n5_
        have HB := n6_
        clear n0_ n1_ n2_ n3_ n4_ n5_ n6_
        refine start_ (n := 10) (S := fun w' => w'.cell? ⟨gb159,0,none⟩ = some (.int .i64 ((rd_T55 x152003_1 x4_2).f0)) ∧ w'.cell? ⟨gb159,1,none⟩ = some (.int .i64 ((rd_T55 x152003_1 x4_2).f1)) ∧ w'.cell? ⟨gb159,2,none⟩ = some (.int .i64 ((rd_T55 x152003_1 x4_2).f2)) ∧ w'.cell? ⟨gb159,3,none⟩ = some (.string ((rd_T55 x152003_1 x4_2).f3)) ∧ w'.cell? ⟨gb159,4,none⟩ = some (.string ((rd_T55 x152003_1 x4_2).f4))) (ds := [7,9]) #[false,false,false,false,false,false,false,false,false,false] (by kernel_rfl) rfl rfl ⟨(blk_cell BK159.out 0).trans rfl,(blk_cell BK159.out 1).trans rfl,(blk_cell BK159.out 2).trans rfl,(blk_cell BK159.out 3).trans rfl,(blk_cell BK159.out 4).trans rfl⟩ (fun hHeld => ?_);refine with_tabW incipitlaw19_Cut.tab8 incipitlaw19_Cut.bits8 (fun HT_ HW_ => ?_)
        generalize w24.drew = w25 at HO_3 HO_152003 HO_152004 BK151 BK152 BK159 HB hHeld ⊢
        refine pure_ (i := 0) (N := some 26) (v := ?_) (a' := ?_) #[true,false,false,false,false,false,false,false,false,false] rfl rfl (any_of HT_.out (by kernel_rfl)) (fun _ _ _ h => h) (Or.inl ⟨by rfl,?_⟩) ?_ ?_
        rotate_left
        ·intro w'
         go_simp
         with_reducible rfl
        rotate_left
        ·simp only [Act.put, List.setIfInBounds_toArray, List.set_cons_zero, List.set_cons_succ, i64_w, i32_w]
         rfl
        refine pure_ (i := 3) (N := some 29) (v := ?_) (a' := ?_) #[true,false,false,true,false,false,false,false,false,false] rfl rfl (any_of HT_.out (by kernel_rfl)) (fun _ _ _ h => h) (Or.inl ⟨by rfl,?_⟩) ?_ ?_
        rotate_left
        ·intro w'
         go_simp
         with_reducible rfl
        rotate_left
        ·simp only [Act.put, List.setIfInBounds_toArray, List.set_cons_zero, List.set_cons_succ, i64_w, i32_w]
         rfl
        refine take_ (i := 1) (N := some 27) (v := ?_) (a' := ?_) #[true,true,false,true,false,false,false,false,false,false] rfl rfl (take_ofW HT_.out HW_.out (by kernel_rfl)) (fun _ _ _ h => h) (Or.inl ⟨by rfl,?_⟩) hHeld ?_ ?_
        rotate_left
        ·rintro w' ⟨s0, s1, s2, s3, s4⟩
         go_simp
         with_reducible rfl
        rotate_left
        ·simp only [Act.put, List.setIfInBounds_toArray, List.set_cons_zero, List.set_cons_succ, i64_w, i32_w]
         rfl
        refine take_ (i := 4) (N := some 30) (v := ?_) (a' := ?_) #[true,true,false,true,true,false,false,false,false,false] rfl rfl (take_ofW HT_.out HW_.out (by kernel_rfl)) (fun _ _ _ h => h) (Or.inl ⟨by rfl,?_⟩) hHeld ?_ ?_
        rotate_left
        ·rintro w' ⟨s0, s1, s2, s3, s4⟩
         go_simp
         with_reducible rfl
        rotate_left
        ·simp only [Act.put, List.setIfInBounds_toArray, List.set_cons_zero, List.set_cons_succ, i64_w, i32_w]
         rfl
        refine one_ (i := 2) (N := some 28) #[true, true, true, true, true, false, false, false, false, false] rfl rfl (one_of HT_.out (by kernel_rfl)) (by decide) (fun K hK => ?_)
        refine goes_ Try.func39 (by kernel_rfl) rfl #[.string ((rd_T55 x152003_1 x4_2).f3),.int .i64 20] (by rfl) rfl rfl (by (try simp only [List.map_toArray,List.map_cons,List.map_nil]);first | done | rfl|(simp only [List.length_drop,List.length_take];rfl)) ?_
        with_reducible refine (incipitlaw1_Cut.calls ((rd_T55 x152003_1 x4_2).f3) 20 t160 _ A14.out).mono ?_
        rintro e w' ⟨rfl, ⟨nd, rfl⟩⟩
        refine ⟨_, rfl, ?_⟩
        refine hK.out _ _ ⟨(blk_cell BK159.out 0).trans rfl,(blk_cell BK159.out 1).trans rfl,(blk_cell BK159.out 2).trans rfl,(blk_cell BK159.out 3).trans rfl,(blk_cell BK159.out 4).trans rfl⟩ (fun hHeld => ?_)
        clear hK K
        refine norm_ (a' := ?_) ?_ ?_
        rotate_left
        ·show Act.put _ (some 28) _ = _
         simp only [Act.put, List.setIfInBounds_toArray, List.set_cons_zero, List.set_cons_succ, i64_w, i32_w]
         rfl
        refine pure_ (i := 6) (N := some 32) (v := ?_) (a' := ?_) #[true,true,true,true,true,false,true,false,false,false] rfl rfl (any_of HT_.out (by kernel_rfl)) (fun _ _ _ h => h) (Or.inl ⟨by rfl,?_⟩) ?_ ?_
        rotate_left
        ·intro w'
         go_simp
         with_reducible rfl
        rotate_left
        ·simp only [Act.put, List.setIfInBounds_toArray, List.set_cons_zero, List.set_cons_succ, i64_w, i32_w]
         rfl
        refine one_ (i := 5) (N := some 31) #[true, true, true, true, true, true, true, false, false, false] rfl rfl (one_of HT_.out (by kernel_rfl)) (by decide) (fun K hK => ?_)
        refine goes_ Try.func39 (by kernel_rfl) rfl #[.string ((rd_T55 x152003_1 x4_2).f4),.int .i64 20] (by rfl) rfl rfl (by (try simp only [List.map_toArray,List.map_cons,List.map_nil]);first | done | rfl|(simp only [List.length_drop,List.length_take];rfl)) ?_
        with_reducible refine (incipitlaw1_Cut.calls ((rd_T55 x152003_1 x4_2).f4) 20 t161 _ A15.out).mono ?_
        rintro e w' ⟨rfl, ⟨nd, rfl⟩⟩
        refine ⟨_, rfl, ?_⟩
        refine hK.out _ _ ⟨(blk_cell BK159.out 0).trans rfl,(blk_cell BK159.out 1).trans rfl,(blk_cell BK159.out 2).trans rfl,(blk_cell BK159.out 3).trans rfl,(blk_cell BK159.out 4).trans rfl⟩ (fun hHeld => ?_)
        clear hK K
        refine norm_ (a' := ?_) ?_ ?_
        rotate_left
        ·show Act.put _ (some 31) _ = _
         simp only [Act.put, List.setIfInBounds_toArray, List.set_cons_zero, List.set_cons_succ, i64_w, i32_w]
         rfl
        refine last_ (i := 7) (N := none) #[true, true, true, true, true, true, true, true, false, false] rfl rfl (one_of HT_.out (by kernel_rfl)) (by decide) (fun K hK => ?_)
        have hs26 : w25.cell? ⟨gb159, 3, none⟩ = some (.string ((rd_T55 x152003_1 x4_2).f3)) := (blk_cell BK159.out 3).trans rfl
        have hfs26 := blk_frozen BK159.out 3
        have hns26_0 := NB151_159.out
        have hns26_1 := NB152_159.out
        have hms26_0 := NB159_151.out
        have hms26_1 := NB159_152.out
        refine skip_ (w1 := ?_) (by rfl) rfl ?_ ?_
        rotate_left
        ·go_simp
         rfl
        refine hK.out _ _ ?_
        clear hK K
        refine pure_ (i := 8) (N := some 33) (v := ?_) (a' := ?_) #[true,true,true,true,true,true,true,true,true,false] rfl rfl (any_of HT_.out (by kernel_rfl)) (fun _ _ _ h => h) (Or.inl ⟨by rfl,?_⟩) ?_ ?_
        rotate_left
        ·intro w'
         go_simp
         with_reducible rfl
        rotate_left
        ·simp only [Act.put, List.setIfInBounds_toArray, List.set_cons_zero, List.set_cons_succ, i64_w, i32_w]
         rfl
        refine last_ (i := 9) (N := none) #[true, true, true, true, true, true, true, true, true, true] rfl rfl (one_of HT_.out (by kernel_rfl)) (by decide) (fun K hK => ?_)
        have hs27 : w25.cell? ⟨gb159, 4, none⟩ = some (.string ((rd_T55 x152003_1 x4_2).f4)) := (blk_cell BK159.out 4).trans rfl
        have hfs27 := blk_frozen BK159.out 4
        have hns27_0 := NB151_159.out
        have hns27_1 := NB152_159.out
        have hms27_0 := NB159_151.out
        have hms27_1 := NB159_152.out
        refine skip_ (w1 := ?_) (by rfl) rfl ?_ ?_
        rotate_left
        ·go_simp
         rfl
        refine hK.out _ _ ?_
        clear hK K
        refine done_ (done_of HT_.out (by kernel_rfl)) ?_
        have hcz28_0 : w25.cell? ⟨gb159, 0, none⟩ = some (.int .i64 ((rd_T55 x152003_1 x4_2).f0)) := (blk_cell BK159.out 0).trans rfl
        have hcz28_1 : w25.cell? ⟨gb159, 1, none⟩ = some (.int .i64 ((rd_T55 x152003_1 x4_2).f1)) := (blk_cell BK159.out 1).trans rfl
        have hcz28_2 : w25.cell? ⟨gb159, 2, none⟩ = some (.int .i64 ((rd_T55 x152003_1 x4_2).f2)) := (blk_cell BK159.out 2).trans rfl
        have hcz28_3 : w25.cell? ⟨gb159, 3, none⟩ = some (.string ((rd_T55 x152003_1 x4_2).f3)) := (blk_cell BK159.out 3).trans rfl
        have hcz28_4 : w25.cell? ⟨gb159, 4, none⟩ = some (.string ((rd_T55 x152003_1 x4_2).f4)) := (blk_cell BK159.out 4).trans rfl
        have hfz28_0 := blk_frozen BK159.out 0
        have hfz28_1 := blk_frozen BK159.out 1
        have hfz28_2 := blk_frozen BK159.out 2
        have hfz28_3 := blk_frozen BK159.out 3
        have hfz28_4 := blk_frozen BK159.out 4
        try go_wp2_with (first|((with_reducible refine gate_builtin (b := .append) (xs := #[.tmp 34,.tmp 36]) rfl ?_);at_builtin;refine Kd.R_append k55 (w0 := w) w.heap.size rfl (.tmp 34) (.tmp 36) 40 55 (.agg #[(.int .i64 0),(.int .i64 0),(.int .i64 0),(.string ⟨#[]⟩),(.string ⟨#[]⟩)]) 56 rfl Try.underlying40 info55 rfl (by decide) (by omega) u3 x3_2 (⟨(rd_T55 x152003_1 x4_2).f0,(rd_T55 x152003_1 x4_2).f1,(rd_T55 x152003_1 x4_2).f2,t160,t161⟩ : S55) [.int .i64 ((rd_T55 x152003_1 x4_2).f0),.int .i64 ((rd_T55 x152003_1 x4_2).f1),.int .i64 ((rd_T55 x152003_1 x4_2).f2),.string t160,.string t161] (fun k_ => (w.heap.size ≤ k_) ∧ k_ ≠ gb159) (fun _ => False) rfl (by first|(go_simp;done)|(go_simp;rfl)) ?aP (fun _ hk => hk.elim) ?aF ?aO ?aB ?aS ?aL ?_;(case aP => exact k55_mkM _ _ _ (⟨(rd_T55 x152003_1 x4_2).f0,(rd_T55 x152003_1 x4_2).f1,(rd_T55 x152003_1 x4_2).f2,t160,t161⟩ : S55));(case aB => exact (by repeat (first|(with_reducible first|exact HB.out|apply below_alloc|apply pw_below_drewN|apply below_drew1|refine below_set ?_ GE151.out|refine below_set ?_ GE152.out|refine below_set ?_ GE159.out)|exact HB.out)));(case aF => exact (fun k_ hk => ⟨(Nat.le_trans (below_size (by repeat (first|(with_reducible first|exact HB.out|apply below_alloc|apply pw_below_drewN|apply below_drew1|refine below_set ?_ GE151.out|refine below_set ?_ GE152.out|refine below_set ?_ GE159.out)|exact HB.out))) hk),Kd.freshB (g := gb159) (o := .cells #[.int .i64 ((rd_T55 x152003_1 x4_2).f0),.int .i64 ((rd_T55 x152003_1 x4_2).f1),.int .i64 ((rd_T55 x152003_1 x4_2).f2),.string t160,.string t161] 55 (0,0)) (by (with_reducible repeat (first|refine blk_drewN ?_ _|refine blk_drew ?_|refine blk_alloc ?_ _));refine blk_put (cs := #[.int .i64 ((rd_T55 x152003_1 x4_2).f0),.int .i64 ((rd_T55 x152003_1 x4_2).f1),.int .i64 ((rd_T55 x152003_1 x4_2).f2),.string t160,.string ((rd_T55 x152003_1 x4_2).f4)]) ?_ 4 _ rfl;(with_reducible repeat (first|refine blk_drewN ?_ _|refine blk_drew ?_|refine blk_alloc ?_ _));refine blk_put (cs := #[.int .i64 ((rd_T55 x152003_1 x4_2).f0),.int .i64 ((rd_T55 x152003_1 x4_2).f1),.int .i64 ((rd_T55 x152003_1 x4_2).f2),.string ((rd_T55 x152003_1 x4_2).f3),.string ((rd_T55 x152003_1 x4_2).f4)]) ?_ 3 _ rfl;(with_reducible repeat (first|refine blk_drewN ?_ _|refine blk_drew ?_|refine blk_alloc ?_ _));exact BK159.out) k_ hk⟩));(case aO => exact (by (with_reducible repeat (first|apply Kd.R_alloc|apply Kd.R_drewN|apply Kd.R_drew));exact Kd.R_mono (Kd.R_far (p := ⟨gb159,4,none⟩) (Kd.R_far (p := ⟨gb159,3,none⟩) (Kd.R_mono (Kd.R_drewN HO_3.out _) (fun k_ hk => (⟨hk,hk.2⟩ : _ ∧ k_ ≠ gb159))) (fun _ hk => hk.2) (.string t160)) (fun _ hk => hk.2) (.string t161)) (fun _ hk => ⟨hk.1.1,hk.1.2⟩)));(case aS => exact (below_size (by repeat (first|(with_reducible first|exact HB.out|apply below_alloc|apply pw_below_drewN|apply below_drew1|refine below_set ?_ GE151.out|refine below_set ?_ GE152.out|refine below_set ?_ GE159.out)|exact HB.out))));(case aL => have := LMc16.out;omega);intro v163 w29 ho hb hg hat;rw [← Ny162.out] at ho;have n0_ := Aside0.mk (Kd.V_afterv (ok := (fun k_ => ((P0_3_ k_ ∨ P0_4_ k_) ∨ w.heap.size ≤ k_) ∧ k_ ≠ gb151 ∧ k_ ≠ gb152 ∧ k_ ≠ gb159)) (by (with_reducible repeat (first|apply Kd.V_alloc|apply Kd.V_drewN|apply Kd.V_drew));exact Kd.V_mono (Kd.V_far (p := ⟨gb159,4,none⟩) (Kd.V_far (p := ⟨gb159,3,none⟩) (Kd.V_mono (Kd.V_drewN HO_152003.out _) (fun k_ hk => (⟨hk,hk.2.2.2.2⟩ : _ ∧ k_ ≠ gb159))) (fun _ hk => hk.2) (.string t160)) (fun _ hk => hk.2) (.string t161)) (fun _ hk => ⟨⟨hk.1.1,⟨hk.1.2.2.1,⟨hk.1.2.2.2.1,hk.1.2.2.2.2⟩⟩⟩,hk.1.2.1⟩)) hg hat);have n1_ := Aside0.mk (Kd.V_afterv (ok := (fun k_ => ((P0_3_ k_ ∨ P0_4_ k_) ∨ w.heap.size ≤ k_) ∧ k_ ≠ gb151 ∧ k_ ≠ gb152 ∧ k_ ≠ gb159)) (by (with_reducible repeat (first|apply Kd.V_alloc|apply Kd.V_drewN|apply Kd.V_drew));exact Kd.V_mono (Kd.V_far (p := ⟨gb159,4,none⟩) (Kd.V_far (p := ⟨gb159,3,none⟩) (Kd.V_mono (Kd.V_drewN HO_152004.out _) (fun k_ hk => (⟨hk,hk.2.2.2.2⟩ : _ ∧ k_ ≠ gb159))) (fun _ hk => hk.2) (.string t160)) (fun _ hk => hk.2) (.string t161)) (fun _ hk => ⟨⟨hk.1.1,⟨hk.1.2.2.1,⟨hk.1.2.2.2.1,hk.1.2.2.2.2⟩⟩⟩,hk.1.2.1⟩)) hg hat);have n2_ := Aside0.mk (blk_grown (g := gb151) (o := .cells #[.int .i64 a0_0,.int .i64 a0_1,.int .i64 a0_2,.slice (some ad158) x152003_1.length co19,.slice A0_4 l0_4.length c0_4] 43 (0,0)) (by (with_reducible repeat (first|refine blk_drewN ?_ _|refine blk_drew ?_|refine blk_alloc ?_ _));refine blk_far ?_ NB151_159.out _;(with_reducible repeat (first|refine blk_drewN ?_ _|refine blk_drew ?_|refine blk_alloc ?_ _));refine blk_far ?_ NB151_159.out _;(with_reducible repeat (first|refine blk_drewN ?_ _|refine blk_drew ?_|refine blk_alloc ?_ _));exact BK151.out) hg (Kd.R_ne HO_3.out BK151.out (by decide)));have n3_ := Aside0.mk (blk_grown (g := gb152) (o := .cells #[.int .i64 0,.int .i64 0,.int .i64 0,.slice none 0 0,.slice none 0 0] 43 (0,0)) (by (with_reducible repeat (first|refine blk_drewN ?_ _|refine blk_drew ?_|refine blk_alloc ?_ _));refine blk_far ?_ NB152_159.out _;(with_reducible repeat (first|refine blk_drewN ?_ _|refine blk_drew ?_|refine blk_alloc ?_ _));refine blk_far ?_ NB152_159.out _;(with_reducible repeat (first|refine blk_drewN ?_ _|refine blk_drew ?_|refine blk_alloc ?_ _));exact BK152.out) hg (Kd.R_ne HO_3.out BK152.out (by decide)));have n4_ := Aside0.mk (blk_grown (g := gb159) (o := .cells #[.int .i64 ((rd_T55 x152003_1 x4_2).f0),.int .i64 ((rd_T55 x152003_1 x4_2).f1),.int .i64 ((rd_T55 x152003_1 x4_2).f2),.string t160,.string t161] 55 (0,0)) (by (with_reducible repeat (first|refine blk_drewN ?_ _|refine blk_drew ?_|refine blk_alloc ?_ _));refine blk_put (cs := #[.int .i64 ((rd_T55 x152003_1 x4_2).f0),.int .i64 ((rd_T55 x152003_1 x4_2).f1),.int .i64 ((rd_T55 x152003_1 x4_2).f2),.string t160,.string ((rd_T55 x152003_1 x4_2).f4)]) ?_ 4 _ rfl;(with_reducible repeat (first|refine blk_drewN ?_ _|refine blk_drew ?_|refine blk_alloc ?_ _));refine blk_put (cs := #[.int .i64 ((rd_T55 x152003_1 x4_2).f0),.int .i64 ((rd_T55 x152003_1 x4_2).f1),.int .i64 ((rd_T55 x152003_1 x4_2).f2),.string ((rd_T55 x152003_1 x4_2).f3),.string ((rd_T55 x152003_1 x4_2).f4)]) ?_ 3 _ rfl;(with_reducible repeat (first|refine blk_drewN ?_ _|refine blk_drew ?_|refine blk_alloc ?_ _));exact BK159.out) hg (Kd.R_away HO_3.out (fun _ hk => hk.2)));have n5_ := Aside0.mk (hb);have n6_ := Aside0.mk (ho);clear HO_152003;clear HO_152004;clear BK151;clear BK152;clear BK159;clear HB;clear HO_3;have HO_152003 := n0_;have HO_152004 := n1_;have BK151 := n2_;have BK152 := n3_;have BK159 := n4_;have HB := n5_;have HO164 := n6_;clear n0_ n1_ n2_ n3_ n4_ n5_ n6_;clear ho hb hg hat))
        go_roundg k2
        case measure => have := HJ1.out; have := HK2.out; omega
        case rel => exact ⟨(y162),(wrap64 (x4_2 + 1)),(by first | rfl|(simp;done)|(simp [*];done)),H',⟨by have := HJ1.out;have := HK2.out;omega⟩,⟨by (with_reducible repeat (first|apply Kd.R_alloc|apply Kd.R_drewN|apply Kd.R_drew));exact Kd.R_mono HO164.out (fun _ hk => hk.1)⟩,⟨by (with_reducible repeat (first|apply Kd.V_alloc|apply Kd.V_drewN|apply Kd.V_drew));exact Kd.V_mono HO_152003.out (fun _ hk => ⟨hk.1.1,⟨hk.2,⟨hk.1.2.1,hk.1.2.2.1⟩⟩⟩)⟩,⟨by (with_reducible repeat (first|apply Kd.V_alloc|apply Kd.V_drewN|apply Kd.V_drew));exact Kd.V_mono HO_152004.out (fun _ hk => ⟨hk.1.1,⟨hk.2,⟨hk.1.2.1,hk.1.2.2.1⟩⟩⟩)⟩,⟨by (with_reducible repeat (first|refine blk_drewN ?_ _|refine blk_drew ?_|refine blk_alloc ?_ _));exact BK151.out⟩,⟨by (with_reducible repeat (first|refine blk_drewN ?_ _|refine blk_drew ?_|refine blk_alloc ?_ _));exact BK152.out⟩,⟨by repeat (first|(with_reducible first|exact HB.out|apply below_alloc|apply pw_below_drewN|apply below_drew1|refine below_set ?_ GE151.out|refine below_set ?_ GE152.out|refine below_set ?_ GE159.out)|exact HB.out)⟩⟩
       ·rw [if_neg c16] at H
        exact absurd H (by simp)
      ·rw [if_neg c13] at H
       exact absurd H (by simp)
     ·rw [if_neg c12] at H
      have c12b0 : decide (x4_2 < (x152003_1.length : Int)) = false := decide_eq_false c12
      clear c12
      by_cases c30 : (l0_4.length : Int) > 12
      ·rw [if_pos c30] at H
       have c30b0 : decide (12 < (l0_4.length : Int)) = true := decide_eq_true c30
       have c30b1 : decide (12 < l0_4.length) = true := decide_eq_true (by omega)
       clear c30
       by_cases c31 : 12 ≤ (l0_4.length : Int)
       ·rw [if_pos c31] at H
        have c31b0 := eq_true c31
        have c31b1 : decide (12 ≤ (l0_4.length : Int)) = true := decide_eq_true c31
        clear c31
        obtain ⟨y165, hy165⟩ : ∃ y_ : List Int, y_ = (l0_4.take 12) := ⟨_, rfl⟩
        replace H : (some (a0_0,a0_1,a0_2,x3_2,y165)) = some (r1,r2,r3,r4,r5) := by first|(rw [hy165];with_reducible exact H)|(have H2_ := (Option.bind_some _ _).symm.trans H;rw [hy165];with_reducible exact H2_)|(have H2_ := (Option.bind_some _ _).symm.trans H;with_reducible exact H2_) | with_reducible exact H|(rw [hy165];exact H)|exact H
        have Ny165 := Aside0.mk hy165
        clear hy165
        simp only [Option.some.injEq, Prod.mk.injEq] at H
        obtain ⟨rfl, rfl, rfl, rfl, rfl⟩ := H
        have hnb32 := NB151_152.out
        have hnc32 := NB152_151.out
        have hcz33_0 : wr.cell? ⟨gb151, 0, none⟩ = some (.int .i64 a0_0) := (blk_cell BK151.out 0).trans rfl
        have hcz33_1 : wr.cell? ⟨gb151, 1, none⟩ = some (.int .i64 a0_1) := (blk_cell BK151.out 1).trans rfl
        have hcz33_2 : wr.cell? ⟨gb151, 2, none⟩ = some (.int .i64 a0_2) := (blk_cell BK151.out 2).trans rfl
        have hcz33_3 : wr.cell? ⟨gb151, 3, none⟩ = some (u152003) := (blk_cell BK151.out 3).trans rfl
        have hcz33_4 : wr.cell? ⟨gb151, 4, none⟩ = some (.slice A0_4 l0_4.length c0_4) := (blk_cell BK151.out 4).trans rfl
        have hfz33_0 := blk_frozen BK151.out 0
        have hfz33_1 := blk_frozen BK151.out 1
        have hfz33_2 := blk_frozen BK151.out 2
        have hfz33_3 := blk_frozen BK151.out 3
        have hfz33_4 := blk_frozen BK151.out 4
        obtain ⟨Ao34, co34, eo34⟩ := Kd.V_slice HO_152003.out
        subst eo34
        obtain ⟨Ao35, co35, eo35⟩ := Kd.R_slice HO_3.out
        subst eo35
        go_wp2_with (first|((with_reducible refine gate_store (t := 40) (p := 39) rfl ?_);refine store_event (t := 40) (p := 39) (v := ?vo_w36) (w1 := (wr.setCell ⟨gb151,3,none⟩ (.slice Ao35 x3_2.length co35))) ?hg ?ho ?hn ?hr ?_;(case ho => rfl);(case hg => rfl);(case hn => rfl);(case hr => first|(go_simp;done)|(go_simp;rfl));intro w36 hw;have n0_ : Aside0 (Kd.R k55 55 w36 w.heap.size (fun k_ => (w.heap.size ≤ k_)) (.slice Ao35 x3_2.length co35) x3_2) := ⟨(by rw [hw];exact (by (with_reducible repeat (first|apply Kd.R_alloc|apply Kd.R_drewN|apply Kd.R_drew));exact Kd.R_mono (Kd.R_far (p := ⟨gb151,3,none⟩) (Kd.R_types HO_3.out BK151.out (by decide)) (fun _ hk => hk.2) (.slice Ao35 x3_2.length co35)) (fun _ hk => hk.1)))⟩;have n1_ : Aside0 (Kd.V k55 55 w36 w.heap.size (fun k_ => ((P0_3_ k_ ∨ P0_4_ k_) ∨ w.heap.size ≤ k_) ∧ some k_ ≠ (.slice Ao35 x3_2.length co35 : Value).ownBlock ∧ k_ ≠ gb151 ∧ k_ ≠ gb152) (.slice Ao34 x152003_1.length co34) x152003_1) := ⟨(by rw [hw];exact (by (with_reducible repeat (first|apply Kd.V_alloc|apply Kd.V_drewN|apply Kd.V_drew));exact Kd.V_mono (Kd.V_far (p := ⟨gb151,3,none⟩) (Kd.V_mono HO_152003.out (fun k_ hk => (⟨hk,hk.2.2.1⟩ : _ ∧ k_ ≠ gb151))) (fun _ hk => hk.2) (.slice Ao35 x3_2.length co35)) (fun _ hk => ⟨hk.1.1,⟨hk.1.2.1,⟨hk.1.2.2.1,hk.1.2.2.2⟩⟩⟩)))⟩;have n2_ : Aside0 (Kd.V (Kd.int .i64) 2 w36 w.heap.size (fun k_ => ((P0_3_ k_ ∨ P0_4_ k_) ∨ w.heap.size ≤ k_) ∧ some k_ ≠ (.slice Ao35 x3_2.length co35 : Value).ownBlock ∧ k_ ≠ gb151 ∧ k_ ≠ gb152) (.slice A0_4 l0_4.length c0_4) l0_4) := ⟨(by rw [hw];exact (by (with_reducible repeat (first|apply Kd.V_alloc|apply Kd.V_drewN|apply Kd.V_drew));exact Kd.V_mono (Kd.V_far (p := ⟨gb151,3,none⟩) (Kd.V_mono HO_152004.out (fun k_ hk => (⟨hk,hk.2.2.1⟩ : _ ∧ k_ ≠ gb151))) (fun _ hk => hk.2) (.slice Ao35 x3_2.length co35)) (fun _ hk => ⟨hk.1.1,⟨hk.1.2.1,⟨hk.1.2.2.1,hk.1.2.2.2⟩⟩⟩)))⟩;have n3_ : Aside0 (w36.heap[gb151]? = some (.cells #[.int .i64 a0_0,.int .i64 a0_1,.int .i64 a0_2,.slice Ao35 x3_2.length co35,.slice A0_4 l0_4.length c0_4] 43 (0,0))) := ⟨(by rw [hw];exact (by (with_reducible repeat (first|refine blk_drewN ?_ _|refine blk_drew ?_|refine blk_alloc ?_ _));refine blk_put (cs := #[.int .i64 a0_0,.int .i64 a0_1,.int .i64 a0_2,.slice Ao34 x152003_1.length co34,.slice A0_4 l0_4.length c0_4]) ?_ 3 _ rfl;(with_reducible repeat (first|refine blk_drewN ?_ _|refine blk_drew ?_|refine blk_alloc ?_ _));exact BK151.out))⟩;have n4_ : Aside0 (w36.heap[gb152]? = some (.cells #[.int .i64 0,.int .i64 0,.int .i64 0,.slice none 0 0,.slice none 0 0] 43 (0,0))) := ⟨(by rw [hw];exact (by (with_reducible repeat (first|refine blk_drewN ?_ _|refine blk_drew ?_|refine blk_alloc ?_ _));refine blk_far ?_ NB152_151.out _;(with_reducible repeat (first|refine blk_drewN ?_ _|refine blk_drew ?_|refine blk_alloc ?_ _));exact BK152.out))⟩;have n5_ : Aside0 (Below w.heap.size w w36) := ⟨(by rw [hw];exact (by repeat (first|(with_reducible first|exact HB.out|apply below_alloc|apply pw_below_drewN|apply below_drew1|refine below_set ?_ GE151.out|refine below_set ?_ GE152.out)|exact HB.out)))⟩;clear hw;clear HO_3;clear HO_152003;clear HO_152004;clear BK151;clear BK152;clear HB;have HO_3 := n0_;have HO_152003 := n1_;have HO_152004 := n2_;have BK151 := n3_;have BK152 := n4_;have HB := n5_;clear n0_ n1_ n2_ n3_ n4_ n5_;have hcz37_0 : w36.cell? ⟨gb151,0,none⟩ = some (.int .i64 a0_0) := (blk_cell BK151.out 0).trans rfl;have hcz37_1 : w36.cell? ⟨gb151,1,none⟩ = some (.int .i64 a0_1) := (blk_cell BK151.out 1).trans rfl;have hcz37_2 : w36.cell? ⟨gb151,2,none⟩ = some (.int .i64 a0_2) := (blk_cell BK151.out 2).trans rfl;have hcz37_3 : w36.cell? ⟨gb151,3,none⟩ = some (.slice Ao35 x3_2.length co35) := (blk_cell BK151.out 3).trans rfl;have hcz37_4 : w36.cell? ⟨gb151,4,none⟩ = some (.slice A0_4 l0_4.length c0_4) := (blk_cell BK151.out 4).trans rfl;have hfz37_0 := blk_frozen BK151.out 0;have hfz37_1 := blk_frozen BK151.out 1;have hfz37_2 := blk_frozen BK151.out 2;have hfz37_3 := blk_frozen BK151.out 3;have hfz37_4 := blk_frozen BK151.out 4;have q38 : (12 : Int) ≤ ((l0_4.length : Int) : Int) := of_decide_eq_true (by first|(with_reducible assumption) | assumption);obtain ⟨i038,hi038,_,hsz38,_⟩ := info_parts info2;have hroom38 : l0_4.length ≤ c0_4 := (Kd.V_reads' HO_152004.out).2.1;have hC38 : Kd.F (Kd.int .i64) _ _ A0_4 l0_4.length l0_4 := (Kd.V_at (base := w.heap.size) HO_152004.out).2.2;have hcut38 := cut_to (P := Try.prog) 41 2 .i64 Try.underlying41 hi038 A0_4 l0_4.length c0_4 12 (by omega) q38 hroom38;have hr38 := Kd.F_take (m := 12) hC38 (by omega);have hy38 : y165.length = (12 : Int).toNat := (by rw [Ny165.out,List.length_take];omega);rw [← Ny165.out] at hr38;rw [← hy38] at hcut38;have HO169 := Aside0.mk (show Kd.V (Kd.int .i64) 2 _ w.heap.size _ (.slice A0_4 y165.length c0_4) y165 from Kd.V_mk (by omega) hr38);have HC169 := Aside0.mk (show y165.length ≤ c0_4 from by omega);clear hr38 hC38 hroom38 hi038 hsz38;have KY38 := Aside0.mk hy38;clear hy38;replace q38 := eq_true q38;have hcz39_0 : w36.cell? ⟨gb152,0,none⟩ = some (.int .i64 0) := (blk_cell BK152.out 0).trans rfl;have hcz39_1 : w36.cell? ⟨gb152,1,none⟩ = some (.int .i64 0) := (blk_cell BK152.out 1).trans rfl;have hcz39_2 : w36.cell? ⟨gb152,2,none⟩ = some (.int .i64 0) := (blk_cell BK152.out 2).trans rfl;have hcz39_3 : w36.cell? ⟨gb152,3,none⟩ = some (.slice none 0 0) := (blk_cell BK152.out 3).trans rfl;have hcz39_4 : w36.cell? ⟨gb152,4,none⟩ = some (.slice none 0 0) := (blk_cell BK152.out 4).trans rfl;have hfz39_0 := blk_frozen BK152.out 0;have hfz39_1 := blk_frozen BK152.out 1;have hfz39_2 := blk_frozen BK152.out 2;have hfz39_3 := blk_frozen BK152.out 3;have hfz39_4 := blk_frozen BK152.out 4))
        refine bodyPost_ret (results_cell_row rfl _ _ gb152 43 #[.int .i64 a0_0,.int .i64 a0_1,.int .i64 a0_2,.slice Ao35 x3_2.length co35,.slice A0_4 y165.length c0_4] (0,0) _ rfl (by (with_reducible repeat (first|refine blk_drewN ?_ _|refine blk_drew ?_|refine blk_alloc ?_ _));refine blk_put (cs := #[.int .i64 a0_0,.int .i64 a0_1,.int .i64 a0_2,.slice Ao35 x3_2.length co35,.slice none 0 0]) ?_ 4 _ rfl;(with_reducible repeat (first|refine blk_drewN ?_ _|refine blk_drew ?_|refine blk_alloc ?_ _));refine blk_put (cs := #[.int .i64 a0_0,.int .i64 a0_1,.int .i64 a0_2,.slice none 0 0,.slice none 0 0]) ?_ 3 _ rfl;(with_reducible repeat (first|refine blk_drewN ?_ _|refine blk_drew ?_|refine blk_alloc ?_ _));refine blk_put (cs := #[.int .i64 a0_0,.int .i64 a0_1,.int .i64 0,.slice none 0 0,.slice none 0 0]) ?_ 2 _ rfl;(with_reducible repeat (first|refine blk_drewN ?_ _|refine blk_drew ?_|refine blk_alloc ?_ _));refine blk_put (cs := #[.int .i64 a0_0,.int .i64 0,.int .i64 0,.slice none 0 0,.slice none 0 0]) ?_ 1 _ rfl;(with_reducible repeat (first|refine blk_drewN ?_ _|refine blk_drew ?_|refine blk_alloc ?_ _));refine blk_put (cs := #[.int .i64 0,.int .i64 0,.int .i64 0,.slice none 0 0,.slice none 0 0]) ?_ 0 _ rfl;(with_reducible repeat (first|refine blk_drewN ?_ _|refine blk_drew ?_|refine blk_alloc ?_ _));refine blk_far ?_ NB152_151.out _;(with_reducible repeat (first|refine blk_drewN ?_ _|refine blk_drew ?_|refine blk_alloc ?_ _));exact BK152.out) Try.underlying43 rfl (by kernel_rfl)) rfl ?_
        exact ⟨_,_,by first | rfl|(simp [errW_none,errW_some] <;> rfl)|(simp [*,errW_none,errW_some] <;> rfl),by (with_reducible repeat (first|apply Kd.R_alloc|apply Kd.R_drewN|apply Kd.R_drew));exact Kd.R_mono (Kd.R_far (p := ⟨gb152,4,none⟩) (Kd.R_far (p := ⟨gb152,3,none⟩) (Kd.R_far (p := ⟨gb152,2,none⟩) (Kd.R_far (p := ⟨gb152,1,none⟩) (Kd.R_far (p := ⟨gb152,0,none⟩) (Kd.R_far (p := ⟨gb151,4,none⟩) (Kd.R_types (Kd.R_types HO_3.out BK151.out (by decide)) BK152.out (by decide)) (fun _ hk => hk.1.2) (.slice A0_4 y165.length c0_4)) (fun _ hk => hk.2) (.int .i64 a0_0)) (fun _ hk => hk.2) (.int .i64 a0_1)) (fun _ hk => hk.2) (.int .i64 a0_2)) (fun _ hk => hk.2) (.slice Ao35 x3_2.length co35)) (fun _ hk => hk.2) (.slice A0_4 y165.length c0_4)) (fun _ hk => hk.1.1),by (with_reducible repeat (first|apply Kd.V_alloc|apply Kd.V_drewN|apply Kd.V_drew));exact Kd.V_mono (Kd.V_far (p := ⟨gb152,4,none⟩) (Kd.V_far (p := ⟨gb152,3,none⟩) (Kd.V_far (p := ⟨gb152,2,none⟩) (Kd.V_far (p := ⟨gb152,1,none⟩) (Kd.V_far (p := ⟨gb152,0,none⟩) (Kd.V_far (p := ⟨gb151,4,none⟩) (Kd.V_mono (Kd.V_mono HO169.out (fun k_ hk => (⟨hk,hk.2.2.1⟩ : _ ∧ k_ ≠ gb151))) (fun k_ hk => (⟨hk,hk.1.2.2.2⟩ : _ ∧ k_ ≠ gb152))) (fun _ hk => hk.1.2) (.slice A0_4 y165.length c0_4)) (fun _ hk => hk.2) (.int .i64 a0_0)) (fun _ hk => hk.2) (.int .i64 a0_1)) (fun _ hk => hk.2) (.int .i64 a0_2)) (fun _ hk => hk.2) (.slice Ao35 x3_2.length co35)) (fun _ hk => hk.2) (.slice A0_4 y165.length c0_4)) (fun _ hk => ⟨hk.1.1.1,hk.1.1.2.1⟩),by repeat (first|(with_reducible first|exact HB.out|apply below_alloc|apply pw_below_drewN|apply below_drew1|refine below_set ?_ GE151.out|refine below_set ?_ GE152.out)|exact HB.out)⟩
       ·rw [if_neg c31] at H
        exact absurd H (by simp)
      ·rw [if_neg c30] at H
       have c30b0 : decide (12 < (l0_4.length : Int)) = false := decide_eq_false c30
       have c30b1 : decide (12 < l0_4.length) = false := decide_eq_false (by omega)
       clear c30
       simp only [Option.some.injEq, Prod.mk.injEq] at H
       obtain ⟨rfl, rfl, rfl, rfl, rfl⟩ := H
       have hnb40 := NB151_152.out
       have hnc40 := NB152_151.out
       have hcz41_0 : wr.cell? ⟨gb151, 0, none⟩ = some (.int .i64 a0_0) := (blk_cell BK151.out 0).trans rfl
       have hcz41_1 : wr.cell? ⟨gb151, 1, none⟩ = some (.int .i64 a0_1) := (blk_cell BK151.out 1).trans rfl
       have hcz41_2 : wr.cell? ⟨gb151, 2, none⟩ = some (.int .i64 a0_2) := (blk_cell BK151.out 2).trans rfl
       have hcz41_3 : wr.cell? ⟨gb151, 3, none⟩ = some (u152003) := (blk_cell BK151.out 3).trans rfl
       have hcz41_4 : wr.cell? ⟨gb151, 4, none⟩ = some (.slice A0_4 l0_4.length c0_4) := (blk_cell BK151.out 4).trans rfl
       have hfz41_0 := blk_frozen BK151.out 0
       have hfz41_1 := blk_frozen BK151.out 1
       have hfz41_2 := blk_frozen BK151.out 2
       have hfz41_3 := blk_frozen BK151.out 3
       have hfz41_4 := blk_frozen BK151.out 4
       obtain ⟨Ao42, co42, eo42⟩ := Kd.V_slice HO_152003.out
       subst eo42
       obtain ⟨Ao43, co43, eo43⟩ := Kd.R_slice HO_3.out
       subst eo43
       have hcz44_0 : wr.cell? ⟨gb152, 0, none⟩ = some (.int .i64 0) := (blk_cell BK152.out 0).trans rfl
       have hcz44_1 : wr.cell? ⟨gb152, 1, none⟩ = some (.int .i64 0) := (blk_cell BK152.out 1).trans rfl
       have hcz44_2 : wr.cell? ⟨gb152, 2, none⟩ = some (.int .i64 0) := (blk_cell BK152.out 2).trans rfl
       have hcz44_3 : wr.cell? ⟨gb152, 3, none⟩ = some (.slice none 0 0) := (blk_cell BK152.out 3).trans rfl
       have hcz44_4 : wr.cell? ⟨gb152, 4, none⟩ = some (.slice none 0 0) := (blk_cell BK152.out 4).trans rfl
       have hfz44_0 := blk_frozen BK152.out 0
       have hfz44_1 := blk_frozen BK152.out 1
       have hfz44_2 := blk_frozen BK152.out 2
       have hfz44_3 := blk_frozen BK152.out 3
       have hfz44_4 := blk_frozen BK152.out 4
       go_wp2
       refine bodyPost_ret (results_cell_row rfl _ _ gb152 43 #[.int .i64 a0_0,.int .i64 a0_1,.int .i64 a0_2,.slice Ao43 x3_2.length co43,.slice A0_4 l0_4.length c0_4] (0,0) _ rfl (by (with_reducible repeat (first|refine blk_drewN ?_ _|refine blk_drew ?_|refine blk_alloc ?_ _));refine blk_put (cs := #[.int .i64 a0_0,.int .i64 a0_1,.int .i64 a0_2,.slice Ao43 x3_2.length co43,.slice none 0 0]) ?_ 4 _ rfl;(with_reducible repeat (first|refine blk_drewN ?_ _|refine blk_drew ?_|refine blk_alloc ?_ _));refine blk_put (cs := #[.int .i64 a0_0,.int .i64 a0_1,.int .i64 a0_2,.slice none 0 0,.slice none 0 0]) ?_ 3 _ rfl;(with_reducible repeat (first|refine blk_drewN ?_ _|refine blk_drew ?_|refine blk_alloc ?_ _));refine blk_put (cs := #[.int .i64 a0_0,.int .i64 a0_1,.int .i64 0,.slice none 0 0,.slice none 0 0]) ?_ 2 _ rfl;(with_reducible repeat (first|refine blk_drewN ?_ _|refine blk_drew ?_|refine blk_alloc ?_ _));refine blk_put (cs := #[.int .i64 a0_0,.int .i64 0,.int .i64 0,.slice none 0 0,.slice none 0 0]) ?_ 1 _ rfl;(with_reducible repeat (first|refine blk_drewN ?_ _|refine blk_drew ?_|refine blk_alloc ?_ _));refine blk_put (cs := #[.int .i64 0,.int .i64 0,.int .i64 0,.slice none 0 0,.slice none 0 0]) ?_ 0 _ rfl;(with_reducible repeat (first|refine blk_drewN ?_ _|refine blk_drew ?_|refine blk_alloc ?_ _));refine blk_far ?_ NB152_151.out _;(with_reducible repeat (first|refine blk_drewN ?_ _|refine blk_drew ?_|refine blk_alloc ?_ _));exact BK152.out) Try.underlying43 rfl (by kernel_rfl)) rfl ?_
       exact ⟨_,_,by first | rfl|(simp [errW_none,errW_some] <;> rfl)|(simp [*,errW_none,errW_some] <;> rfl),by (with_reducible repeat (first|apply Kd.R_alloc|apply Kd.R_drewN|apply Kd.R_drew));exact Kd.R_mono (Kd.R_far (p := ⟨gb152,4,none⟩) (Kd.R_far (p := ⟨gb152,3,none⟩) (Kd.R_far (p := ⟨gb152,2,none⟩) (Kd.R_far (p := ⟨gb152,1,none⟩) (Kd.R_far (p := ⟨gb152,0,none⟩) (Kd.R_far (p := ⟨gb151,3,none⟩) (Kd.R_types (Kd.R_types HO_3.out BK151.out (by decide)) BK152.out (by decide)) (fun _ hk => hk.1.2) (.slice Ao43 x3_2.length co43)) (fun _ hk => hk.2) (.int .i64 a0_0)) (fun _ hk => hk.2) (.int .i64 a0_1)) (fun _ hk => hk.2) (.int .i64 a0_2)) (fun _ hk => hk.2) (.slice Ao43 x3_2.length co43)) (fun _ hk => hk.2) (.slice A0_4 l0_4.length c0_4)) (fun _ hk => hk.1.1),by (with_reducible repeat (first|apply Kd.V_alloc|apply Kd.V_drewN|apply Kd.V_drew));exact Kd.V_mono (Kd.V_far (p := ⟨gb152,4,none⟩) (Kd.V_far (p := ⟨gb152,3,none⟩) (Kd.V_far (p := ⟨gb152,2,none⟩) (Kd.V_far (p := ⟨gb152,1,none⟩) (Kd.V_far (p := ⟨gb152,0,none⟩) (Kd.V_far (p := ⟨gb151,3,none⟩) (Kd.V_mono (Kd.V_mono HO_152004.out (fun k_ hk => (⟨hk,hk.2.2.1⟩ : _ ∧ k_ ≠ gb151))) (fun k_ hk => (⟨hk,hk.1.2.2.2⟩ : _ ∧ k_ ≠ gb152))) (fun _ hk => hk.1.2) (.slice Ao43 x3_2.length co43)) (fun _ hk => hk.2) (.int .i64 a0_0)) (fun _ hk => hk.2) (.int .i64 a0_1)) (fun _ hk => hk.2) (.int .i64 a0_2)) (fun _ hk => hk.2) (.slice Ao43 x3_2.length co43)) (fun _ hk => hk.2) (.slice A0_4 l0_4.length c0_4)) (fun _ hk => ⟨hk.1.1.1,hk.1.1.2.1⟩),by repeat (first|(with_reducible first|exact HB.out|apply below_alloc|apply pw_below_drewN|apply below_drew1|refine below_set ?_ GE151.out|refine below_set ?_ GE152.out)|exact HB.out)⟩

end Go.Proofs.Ytoglanahjlfihaa.MEdt
