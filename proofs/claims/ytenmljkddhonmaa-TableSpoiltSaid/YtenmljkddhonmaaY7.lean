import Derived.Test.YtenmljkddhonmaaY1
import Derived.Test.YtenmljkddhonmaaY6
import Derived.Test.YtenmljkddhonmaaY2
-- Written by a program of this session for this claim (out of the translation's print); Lean checks it.
namespace Go.Proofs.Ytenmljkddhonmaa.MTbl
open Go.RowKit Go.Proofs.YtenmljkddhonmaaW.PrintWords Go.Proofs.YtenmljkddhonmaaW.PrintLast Go.Proofs.YtenmljkddhonmaaW.PrintMore
attribute [local go_sem] max2_int min2_int max_two min_two max_three min_three max_four min_four   -- for this text's walks alone
set_option linter.unusedVariables false
set_option linter.unusedSimpArgs false

/-! ### incipitref12_EqAll: function 15 -/
def incipitref12_EqAll.l0 : Nat → List (S28) → List (S28) → Int → Option (Bool)
 | 0, _, _, _ => none
 | k + 1,x0,x1,x5=>if x5 < (x0.length : Int) then (if 0 ≤ x5 then (if x5 < (x1.length : Int) then ((incipitref12_Eq.f ((rd_T28 x0 x5).f0) ((rd_T28 x0 x5).f1) ((rd_T28 x0 x5).f2) ((rd_T28 x0 x5).f3) ((rd_T28 x0 x5).f4) ((rd_T28 x1 x5).f0) ((rd_T28 x1 x5).f1) ((rd_T28 x1 x5).f2) ((rd_T28 x1 x5).f3) ((rd_T28 x1 x5).f4)).bind fun t249=>(if t249 = true then (incipitref12_EqAll.l0 k x0 x1 (wrap64 (x5 + 1))) else (some false))) else (none)) else (none)) else (some true)
def incipitref12_EqAll.f (k : Nat) (l0 : List (S28)) (l1 : List (S28)) : Option (Bool):=if (l0.length : Int) = (l1.length : Int) then (incipitref12_EqAll.l0 k l0 l1 0) else (some false)
theorem incipitref12_EqAll.mono_l : ∀ k,(∀ y0 y1 y2,LeO (incipitref12_EqAll.l0 k y0 y1 y2) (incipitref12_EqAll.l0 (k + 1) y0 y1 y2))
 | 0 => fun _ _ _ r h => by simp [incipitref12_EqAll.l0] at h
 | k + 1 => by
  have ih0 := incipitref12_EqAll.mono_l k
  ·intro y0 y1 y2
   unfold incipitref12_EqAll.l0
   repeat' first
  |(with_reducible exact ih0 _ _ _)
  |(with_reducible exact LeO.refl _)
  |(with_reducible exact LeO.none _)
  |(with_reducible refine LeO.ite ?_ ?_)
  |(with_reducible refine LeO.bind ?_ (fun _ => ?_))
  |exact ih0 _ _ _
  |exact LeO.none _
  |refine LeO.ite ?_ ?_
  |refine LeO.bind ?_ (fun _ => ?_)
theorem incipitref12_EqAll.mono : ∀ a0 a1 k,LeO (incipitref12_EqAll.f k a0 a1) (incipitref12_EqAll.f (k + 1) a0 a1):=by
 intro a0 a1 k
 have ih0 := incipitref12_EqAll.mono_l k
 unfold incipitref12_EqAll.f
 repeat' first
  |(with_reducible exact ih0 _ _ _)
  |(with_reducible exact LeO.refl _)
  |(with_reducible exact LeO.none _)
  |(with_reducible refine LeO.ite ?_ ?_)
  |(with_reducible refine LeO.bind ?_ (fun _ => ?_))
  |exact ih0 _ _ _
  |exact LeO.none _
  |refine LeO.ite ?_ ?_
  |refine LeO.bind ?_ (fun _ => ?_)
def incipitref12_EqAll.T6 : Bool × List (List Nat × List Nat):=(true,[([],[]),([],[]),([0,1],[0,1]),([2],[2]),([],[]),([],[]),([4,5],[4,5]),([6],[6]),([3,7],[3,7]),([8],[8])])
def incipitref12_EqAll.B6 : List Nat := [0, 0, 3, 7, 0, 0, 48, 112, 255, 511]
theorem incipitref12_EqAll.tab6 : rtab .any (opsOf Try.f15 6) = incipitref12_EqAll.T6 := by kernel_rfl
theorem incipitref12_EqAll.bits6 : waitsOk incipitref12_EqAll.T6.2 incipitref12_EqAll.B6 = true := by kernel_rfl
set_option maxHeartbeats 80000000 in
set_option maxRecDepth 100000 in
theorem incipitref12_EqAll.calls (k : Nat) (A0 : Option Addr) (c0 : Nat) (l0 : List (S28)) (A1 : Option Addr) (c1 : Nat) (l1 : List (S28)) (r : Bool) (w : World) (hr0 : Kd.C k28 w A0 l0.length l0) (hc0 : l0.length ≤ c0) (hr1 : Kd.C k28 w A1 l1.length l1) (hc1 : l1.length ≤ c1) (h : incipitref12_EqAll.f k l0 l1 = some r) :
  Calls Try.prog 15 #[.slice A0 l0.length c0,.slice A1 l1.length c1] w fun e w'=>e = .returned (.bool r)∧Below w.heap.size w w':=by
 have hu28 := Try.underlying28
 have HR0 := Aside0.mk hr0
 have HC0 := Aside0.mk hc0
 clear hr0 hc0
 have HR1 := Aside0.mk hr1
 have HC1 := Aside0.mk hc1
 clear hr1 hc1
 have HB := Aside0.mk (Below.refl w.heap.size w)
 have H : (if (l0.length : Int) = (l1.length : Int) then (incipitref12_EqAll.l0 k l0 l1 0) else (some false)) = some r:=h
 clear h
 by_cases c3 : (l0.length : Int) = (l1.length : Int)
 ·rw [if_pos c3] at H
  have c3b0 : ((l0.length : Int) == (l1.length : Int)) = true := beq_iff_eq.mpr c3
  have c3b1 : ((l0.length : Int) != (l1.length : Int)) = false := bne_eq_false_iff_eq.mpr c3
  have c3b2 : (l0.length == l1.length) = true := by first | simpa using c3|(simp at c3 ⊢; omega)
  clear c3
  have H' := Aside0.mk H
  clear H
  go_enter Try.func15, Try.ntmps15
  go_wp2
  go_loopg [5] k (fun kq v5 w'=>∃ (x5_1 : Int),v5 = .int .i64 x5_1∧Aside0 (incipitref12_EqAll.l0 kq l0 l1 x5_1 = some r)∧Aside0 (kq ≤ k)∧Aside0 (Below w.heap.size w w'))
  case atStart=>exact ⟨(0),(by first | rfl|(simp;done)|(simp [*];done)),H',⟨Nat.le_refl _⟩,⟨by repeat (first|(with_reducible first|exact HB.out|apply below_alloc|apply pw_below_drewN|apply below_drew1)|exact HB.out)⟩⟩
  case round =>
   clear H'
   try clear c1
   try clear p2
   try clear c3
   try clear c3b0
   try clear c3b1
   try clear c3b2
   obtain ⟨x5_1, rfl, HA, HK1, HB⟩ := hrel
   cases gk with
   | zero => exact absurd HA.out (by simp [incipitref12_EqAll.l0])
   | succ k1 =>
    have H := HA.out
    clear HA
    simp only [incipitref12_EqAll.l0] at H
    by_cases c4 : x5_1 < (l0.length : Int)
    ·rw [if_pos c4] at H
     have c4b0 : decide (x5_1 < (l0.length : Int)) = true := decide_eq_true c4
     clear c4
     by_cases c5 : 0 ≤ x5_1
     ·rw [if_pos c5] at H
      have c5b0 : decide (0 ≤ x5_1) = true := decide_eq_true c5
      clear c5
      by_cases c6 : x5_1 < (l1.length : Int)
      ·rw [if_pos c6] at H
       have c6b0 : decide (x5_1 < (l1.length : Int)) = true := decide_eq_true c6
       clear c6
       replace H := Option.bind_eq_some_iff.mp H
       obtain ⟨t249, A70, H⟩ := H
       replace H : (if t249 = true then (incipitref12_EqAll.l0 k1 l0 l1 (wrap64 (x5_1 + 1))) else (some false)) = some r:=H
       have A7 := Aside0.mk A70
       clear A70
       by_cases c8 : t249 = true
       ·subst c8
        have H1 : (incipitref12_EqAll.l0 k1 l0 l1 (wrap64 (x5_1 + 1))) = some r := by rw [if_pos rfl] at H; exact H
        clear H
        have H := H1
        clear H1
        have H' := Aside0.mk H
        clear H
        try go_wp2
        have n0_ := Aside0.mk (below_drew1 HB.out)
        clear HB
        have HB := n0_
        clear n0_
        have p247 : 0 ≤ (x5_1 : Int) := of_decide_eq_true (by first|(with_reducible assumption) | assumption)
        have q247 : x5_1 < (l0.length : Int) := of_decide_eq_true (by first|(with_reducible assumption) | assumption)
        obtain ⟨ad247, e247, hx247_0, hx247_1, hx247_2, hx247_3, hx247_4⟩ := at_T28 HR0.out x5_1 p247 q247
        have hw247_4 := hx247_4
        have hw247_3 := hx247_3
        have hw247_2 := hx247_2
        have hw247_1 := hx247_1
        have hw247_0 := hx247_0
        cases e247
        replace hx247_0 := (HB.out.cell (World.block_lt_of_cell? w _ hx247_0)).trans hx247_0
        replace hx247_1 := (HB.out.cell (World.block_lt_of_cell? w _ hx247_1)).trans hx247_1
        replace hx247_2 := (HB.out.cell (World.block_lt_of_cell? w _ hx247_2)).trans hx247_2
        replace hx247_3 := (HB.out.cell (World.block_lt_of_cell? w _ hx247_3)).trans hx247_3
        replace hx247_4 := (HB.out.cell (World.block_lt_of_cell? w _ hx247_4)).trans hx247_4
        replace p247 := eq_true p247
        replace q247 := eq_true q247
        have p248 : 0 ≤ (x5_1 : Int) := of_decide_eq_true (by first|(with_reducible assumption) | assumption)
        have q248 : x5_1 < (l1.length : Int) := of_decide_eq_true (by first|(with_reducible assumption) | assumption)
        obtain ⟨ad248, e248, hx248_0, hx248_1, hx248_2, hx248_3, hx248_4⟩ := at_T28 HR1.out x5_1 p248 q248
        have hw248_4 := hx248_4
        have hw248_3 := hx248_3
        have hw248_2 := hx248_2
        have hw248_1 := hx248_1
        have hw248_0 := hx248_0
        cases e248
        replace hx248_0 := (HB.out.cell (World.block_lt_of_cell? w _ hx248_0)).trans hx248_0
        replace hx248_1 := (HB.out.cell (World.block_lt_of_cell? w _ hx248_1)).trans hx248_1
        replace hx248_2 := (HB.out.cell (World.block_lt_of_cell? w _ hx248_2)).trans hx248_2
        replace hx248_3 := (HB.out.cell (World.block_lt_of_cell? w _ hx248_3)).trans hx248_3
        replace hx248_4 := (HB.out.cell (World.block_lt_of_cell? w _ hx248_4)).trans hx248_4
        replace p248 := eq_true p248
        replace q248 := eq_true q248
        refine start_ (n:=10) (S:=fun w'=>w'.cell? (ad247.add ((x5_1).toNat * 5)) = some (.string ((rd_T28 l0 x5_1).f0))∧w'.cell? ⟨(ad247.add ((x5_1).toNat * 5)).block,(ad247.add ((x5_1).toNat * 5)).off + 1,none⟩ = some (.int .i64 ((rd_T28 l0 x5_1).f1))∧w'.cell? ⟨(ad247.add ((x5_1).toNat * 5)).block,(ad247.add ((x5_1).toNat * 5)).off + 2,none⟩ = some (.int .i64 ((rd_T28 l0 x5_1).f2))∧w'.cell? ⟨(ad247.add ((x5_1).toNat * 5)).block,(ad247.add ((x5_1).toNat * 5)).off + 3,none⟩ = some (.string ((rd_T28 l0 x5_1).f3))∧w'.cell? ⟨(ad247.add ((x5_1).toNat * 5)).block,(ad247.add ((x5_1).toNat * 5)).off + 4,none⟩ = some (.string ((rd_T28 l0 x5_1).f4))∧w'.cell? (ad248.add ((x5_1).toNat * 5)) = some (.string ((rd_T28 l1 x5_1).f0))∧w'.cell? ⟨(ad248.add ((x5_1).toNat * 5)).block,(ad248.add ((x5_1).toNat * 5)).off + 1,none⟩ = some (.int .i64 ((rd_T28 l1 x5_1).f1))∧w'.cell? ⟨(ad248.add ((x5_1).toNat * 5)).block,(ad248.add ((x5_1).toNat * 5)).off + 2,none⟩ = some (.int .i64 ((rd_T28 l1 x5_1).f2))∧w'.cell? ⟨(ad248.add ((x5_1).toNat * 5)).block,(ad248.add ((x5_1).toNat * 5)).off + 3,none⟩ = some (.string ((rd_T28 l1 x5_1).f3))∧w'.cell? ⟨(ad248.add ((x5_1).toNat * 5)).block,(ad248.add ((x5_1).toNat * 5)).off + 4,none⟩ = some (.string ((rd_T28 l1 x5_1).f4))) (ds:=[]) #[false,false,false,false,false,false,false,false,false,false] (by kernel_rfl) rfl rfl ⟨((HB.out.cell (World.block_lt_of_cell? w _ hw247_0)).trans hw247_0),((HB.out.cell (World.block_lt_of_cell? w _ hw247_1)).trans hw247_1),((HB.out.cell (World.block_lt_of_cell? w _ hw247_2)).trans hw247_2),((HB.out.cell (World.block_lt_of_cell? w _ hw247_3)).trans hw247_3),((HB.out.cell (World.block_lt_of_cell? w _ hw247_4)).trans hw247_4),((HB.out.cell (World.block_lt_of_cell? w _ hw248_0)).trans hw248_0),((HB.out.cell (World.block_lt_of_cell? w _ hw248_1)).trans hw248_1),((HB.out.cell (World.block_lt_of_cell? w _ hw248_2)).trans hw248_2),((HB.out.cell (World.block_lt_of_cell? w _ hw248_3)).trans hw248_3),((HB.out.cell (World.block_lt_of_cell? w _ hw248_4)).trans hw248_4)⟩ (fun hHeld=>?_);refine with_tabW incipitref12_EqAll.tab6 incipitref12_EqAll.bits6 (fun HT_ HW_=>?_)
        generalize wr.drew = w9 at HB hx247_0 hx247_1 hx247_2 hx247_3 hx247_4 hx248_0 hx248_1 hx248_2 hx248_3 hx248_4 hHeld ⊢
        refine pure_ (i:=0) (N:=some 17) (v:=?_) (a':=?_) #[true,false,false,false,false,false,false,false,false,false] rfl rfl (any_of HT_.out (by kernel_rfl)) (fun _ _ _ h=>h) (Or.inl ⟨by rfl,?_⟩) ?_ ?_
        rotate_left
        ·intro w'
         go_simp
         with_reducible rfl
        rotate_left
        ·simp only [Act.put, List.setIfInBounds_toArray, List.set_cons_zero, List.set_cons_succ, i64_w, i32_w]
         rfl
        refine pure_ (i:=1) (N:=some 18) (v:=?_) (a':=?_) #[true,true,false,false,false,false,false,false,false,false] rfl rfl (any_of HT_.out (by kernel_rfl)) (fun _ _ _ h=>h) (Or.inl ⟨by rfl,?_⟩) ?_ ?_
        rotate_left
        ·intro w'
         go_simp
         with_reducible rfl
        rotate_left
        ·simp only [Act.put, List.setIfInBounds_toArray, List.set_cons_zero, List.set_cons_succ, i64_w, i32_w]
         rfl
        refine pure_ (i:=2) (N:=some 19) (v:=?_) (a':=?_) #[true,true,true,false,false,false,false,false,false,false] rfl rfl (any_of HT_.out (by kernel_rfl)) (fun _ _ _ h=>h) (Or.inl ⟨by rfl,?_⟩) ?_ ?_
        rotate_left
        ·intro w'
         go_simp
         with_reducible rfl
        rotate_left
        ·simp only [Act.put, List.setIfInBounds_toArray, List.set_cons_zero, List.set_cons_succ, i64_w, i32_w]
         rfl
        refine pure_ (i:=4) (N:=some 21) (v:=?_) (a':=?_) #[true,true,true,false,true,false,false,false,false,false] rfl rfl (any_of HT_.out (by kernel_rfl)) (fun _ _ _ h=>h) (Or.inl ⟨by rfl,?_⟩) ?_ ?_
        rotate_left
        ·intro w'
         go_simp
         with_reducible rfl
        rotate_left
        ·simp only [Act.put, List.setIfInBounds_toArray, List.set_cons_zero, List.set_cons_succ, i64_w, i32_w]
         rfl
        refine pure_ (i:=5) (N:=some 22) (v:=?_) (a':=?_) #[true,true,true,false,true,true,false,false,false,false] rfl rfl (any_of HT_.out (by kernel_rfl)) (fun _ _ _ h=>h) (Or.inl ⟨by rfl,?_⟩) ?_ ?_
        rotate_left
        ·intro w'
         go_simp
         with_reducible rfl
        rotate_left
        ·simp only [Act.put, List.setIfInBounds_toArray, List.set_cons_zero, List.set_cons_succ, i64_w, i32_w]
         rfl
        refine pure_ (i:=6) (N:=some 23) (v:=?_) (a':=?_) #[true,true,true,false,true,true,true,false,false,false] rfl rfl (any_of HT_.out (by kernel_rfl)) (fun _ _ _ h=>h) (Or.inl ⟨by rfl,?_⟩) ?_ ?_
        rotate_left
        ·intro w'
         go_simp
         with_reducible rfl
        rotate_left
        ·simp only [Act.put, List.setIfInBounds_toArray, List.set_cons_zero, List.set_cons_succ, i64_w, i32_w]
         rfl
        refine take_ (i:=3) (N:=some 20) (v:=?_) (a':=?_) #[true,true,true,true,true,true,true,false,false,false] rfl rfl (take_ofW HT_.out HW_.out (by kernel_rfl)) (fun _ _ _ h=>h) (Or.inl ⟨by rfl,?_⟩) hHeld ?_ ?_
        rotate_left
        ·rintro w' ⟨s0, s1, s2, s3, s4, s5, s6, s7, s8, s9⟩
         go_simp
         with_reducible rfl
        rotate_left
        ·simp only [Act.put, List.setIfInBounds_toArray, List.set_cons_zero, List.set_cons_succ, i64_w, i32_w]
         rfl
        refine take_ (i:=7) (N:=some 24) (v:=?_) (a':=?_) #[true,true,true,true,true,true,true,true,false,false] rfl rfl (take_ofW HT_.out HW_.out (by kernel_rfl)) (fun _ _ _ h=>h) (Or.inl ⟨by rfl,?_⟩) hHeld ?_ ?_
        rotate_left
        ·rintro w' ⟨s0, s1, s2, s3, s4, s5, s6, s7, s8, s9⟩
         go_simp
         with_reducible rfl
        rotate_left
        ·simp only [Act.put, List.setIfInBounds_toArray, List.set_cons_zero, List.set_cons_succ, i64_w, i32_w]
         rfl
        refine one_ (i:=8) (N:=some 25) #[true,true,true,true,true,true,true,true,true,false] rfl rfl (one_of HT_.out (by kernel_rfl)) (by decide) (fun K hK=>?_)
        refine goes_ Try.func19 (by kernel_rfl) rfl #[.agg #[.string ((rd_T28 l0 x5_1).f0),.int .i64 ((rd_T28 l0 x5_1).f1),.int .i64 ((rd_T28 l0 x5_1).f2),.string ((rd_T28 l0 x5_1).f3),.string ((rd_T28 l0 x5_1).f4)],.agg #[.string ((rd_T28 l1 x5_1).f0),.int .i64 ((rd_T28 l1 x5_1).f1),.int .i64 ((rd_T28 l1 x5_1).f2),.string ((rd_T28 l1 x5_1).f3),.string ((rd_T28 l1 x5_1).f4)]] (by rfl) rfl rfl (by (try simp only [List.map_toArray,List.map_cons,List.map_nil]);first | done | rfl|(simp only [List.length_drop,List.length_take];rfl)) ?_
        with_reducible refine (incipitref12_Eq.calls ((rd_T28 l0 x5_1).f0) ((rd_T28 l0 x5_1).f1) ((rd_T28 l0 x5_1).f2) ((rd_T28 l0 x5_1).f3) ((rd_T28 l0 x5_1).f4) ((rd_T28 l1 x5_1).f0) ((rd_T28 l1 x5_1).f1) ((rd_T28 l1 x5_1).f2) ((rd_T28 l1 x5_1).f3) ((rd_T28 l1 x5_1).f4) true _ A7.out).mono ?_
        rintro e w10 ⟨rfl, hb⟩
        refine ⟨_, rfl, ?_⟩
        have n0_:=Aside0.mk (below_step (by repeat (first|(with_reducible first|exact HB.out|apply below_alloc|apply pw_below_drewN|apply below_drew1)|exact HB.out)) hb)
        clear HB
        have HB := n0_
        clear n0_
        (try clear hb)
        (try clear hb2)
        (try clear hk)
        (try clear hi)
        refine hK.out _ _ ⟨((HB.out.cell (World.block_lt_of_cell? w _ hw247_0)).trans hw247_0),((HB.out.cell (World.block_lt_of_cell? w _ hw247_1)).trans hw247_1),((HB.out.cell (World.block_lt_of_cell? w _ hw247_2)).trans hw247_2),((HB.out.cell (World.block_lt_of_cell? w _ hw247_3)).trans hw247_3),((HB.out.cell (World.block_lt_of_cell? w _ hw247_4)).trans hw247_4),((HB.out.cell (World.block_lt_of_cell? w _ hw248_0)).trans hw248_0),((HB.out.cell (World.block_lt_of_cell? w _ hw248_1)).trans hw248_1),((HB.out.cell (World.block_lt_of_cell? w _ hw248_2)).trans hw248_2),((HB.out.cell (World.block_lt_of_cell? w _ hw248_3)).trans hw248_3),((HB.out.cell (World.block_lt_of_cell? w _ hw248_4)).trans hw248_4)⟩ (fun hHeld=>?_)
        clear hK K
        refine norm_ (a' := ?_) ?_ ?_
        rotate_left
        ·show Act.put _ (some 25) _ = _
         simp only [Act.put, List.setIfInBounds_toArray, List.set_cons_zero, List.set_cons_succ, i64_w, i32_w]
         rfl
        refine pure_ (i:=9) (N:=some 26) (v:=?_) (a':=?_) #[true,true,true,true,true,true,true,true,true,true] rfl rfl (any_of HT_.out (by kernel_rfl)) (fun _ _ _ h=>h) (Or.inl ⟨by rfl,?_⟩) ?_ ?_
        rotate_left
        ·intro w'
         go_simp
         with_reducible rfl
        rotate_left
        ·simp only [Act.put, List.setIfInBounds_toArray, List.set_cons_zero, List.set_cons_succ, i64_w, i32_w]
         rfl
        refine done_ (done_of HT_.out (by kernel_rfl)) ?_
        try go_wp2
        go_roundg k1
        case measure => have := HK1.out; omega
        case rel=>exact ⟨(wrap64 (x5_1 + 1)),(by first | rfl|(simp;done)|(simp [*];done)),H',⟨by have:=HK1.out;omega⟩,⟨by repeat (first|(with_reducible first|exact HB.out|apply below_alloc|apply pw_below_drewN|apply below_drew1)|exact HB.out)⟩⟩
       ·replace c8 := Bool.eq_false_iff.mpr c8
        subst c8
        have H1 : (some false) = some r := by rw [if_neg (show ¬ (false = true) by decide)] at H; exact H
        clear H
        have H := H1
        clear H1
        obtain rfl := Option.some.inj H
        simp only [Option.some.injEq, Prod.mk.injEq] at H
        obtain ⟨rfl⟩ := H
        try go_wp2
        have n0_ := Aside0.mk (below_drew1 HB.out)
        clear HB
        have HB := n0_
        clear n0_
        have p247 : 0 ≤ (x5_1 : Int) := of_decide_eq_true (by first|(with_reducible assumption) | assumption)
        have q247 : x5_1 < (l0.length : Int) := of_decide_eq_true (by first|(with_reducible assumption) | assumption)
        obtain ⟨ad247, e247, hx247_0, hx247_1, hx247_2, hx247_3, hx247_4⟩ := at_T28 HR0.out x5_1 p247 q247
        have hw247_4 := hx247_4
        have hw247_3 := hx247_3
        have hw247_2 := hx247_2
        have hw247_1 := hx247_1
        have hw247_0 := hx247_0
        cases e247
        replace hx247_0 := (HB.out.cell (World.block_lt_of_cell? w _ hx247_0)).trans hx247_0
        replace hx247_1 := (HB.out.cell (World.block_lt_of_cell? w _ hx247_1)).trans hx247_1
        replace hx247_2 := (HB.out.cell (World.block_lt_of_cell? w _ hx247_2)).trans hx247_2
        replace hx247_3 := (HB.out.cell (World.block_lt_of_cell? w _ hx247_3)).trans hx247_3
        replace hx247_4 := (HB.out.cell (World.block_lt_of_cell? w _ hx247_4)).trans hx247_4
        replace p247 := eq_true p247
        replace q247 := eq_true q247
        have p248 : 0 ≤ (x5_1 : Int) := of_decide_eq_true (by first|(with_reducible assumption) | assumption)
        have q248 : x5_1 < (l1.length : Int) := of_decide_eq_true (by first|(with_reducible assumption) | assumption)
        obtain ⟨ad248, e248, hx248_0, hx248_1, hx248_2, hx248_3, hx248_4⟩ := at_T28 HR1.out x5_1 p248 q248
        have hw248_4 := hx248_4
        have hw248_3 := hx248_3
        have hw248_2 := hx248_2
        have hw248_1 := hx248_1
        have hw248_0 := hx248_0
        cases e248
        replace hx248_0 := (HB.out.cell (World.block_lt_of_cell? w _ hx248_0)).trans hx248_0
        replace hx248_1 := (HB.out.cell (World.block_lt_of_cell? w _ hx248_1)).trans hx248_1
        replace hx248_2 := (HB.out.cell (World.block_lt_of_cell? w _ hx248_2)).trans hx248_2
        replace hx248_3 := (HB.out.cell (World.block_lt_of_cell? w _ hx248_3)).trans hx248_3
        replace hx248_4 := (HB.out.cell (World.block_lt_of_cell? w _ hx248_4)).trans hx248_4
        replace p248 := eq_true p248
        replace q248 := eq_true q248
        refine start_ (n:=10) (S:=fun w'=>w'.cell? (ad247.add ((x5_1).toNat * 5)) = some (.string ((rd_T28 l0 x5_1).f0))∧w'.cell? ⟨(ad247.add ((x5_1).toNat * 5)).block,(ad247.add ((x5_1).toNat * 5)).off + 1,none⟩ = some (.int .i64 ((rd_T28 l0 x5_1).f1))∧w'.cell? ⟨(ad247.add ((x5_1).toNat * 5)).block,(ad247.add ((x5_1).toNat * 5)).off + 2,none⟩ = some (.int .i64 ((rd_T28 l0 x5_1).f2))∧w'.cell? ⟨(ad247.add ((x5_1).toNat * 5)).block,(ad247.add ((x5_1).toNat * 5)).off + 3,none⟩ = some (.string ((rd_T28 l0 x5_1).f3))∧w'.cell? ⟨(ad247.add ((x5_1).toNat * 5)).block,(ad247.add ((x5_1).toNat * 5)).off + 4,none⟩ = some (.string ((rd_T28 l0 x5_1).f4))∧w'.cell? (ad248.add ((x5_1).toNat * 5)) = some (.string ((rd_T28 l1 x5_1).f0))∧w'.cell? ⟨(ad248.add ((x5_1).toNat * 5)).block,(ad248.add ((x5_1).toNat * 5)).off + 1,none⟩ = some (.int .i64 ((rd_T28 l1 x5_1).f1))∧w'.cell? ⟨(ad248.add ((x5_1).toNat * 5)).block,(ad248.add ((x5_1).toNat * 5)).off + 2,none⟩ = some (.int .i64 ((rd_T28 l1 x5_1).f2))∧w'.cell? ⟨(ad248.add ((x5_1).toNat * 5)).block,(ad248.add ((x5_1).toNat * 5)).off + 3,none⟩ = some (.string ((rd_T28 l1 x5_1).f3))∧w'.cell? ⟨(ad248.add ((x5_1).toNat * 5)).block,(ad248.add ((x5_1).toNat * 5)).off + 4,none⟩ = some (.string ((rd_T28 l1 x5_1).f4))) (ds:=[]) #[false,false,false,false,false,false,false,false,false,false] (by kernel_rfl) rfl rfl ⟨((HB.out.cell (World.block_lt_of_cell? w _ hw247_0)).trans hw247_0),((HB.out.cell (World.block_lt_of_cell? w _ hw247_1)).trans hw247_1),((HB.out.cell (World.block_lt_of_cell? w _ hw247_2)).trans hw247_2),((HB.out.cell (World.block_lt_of_cell? w _ hw247_3)).trans hw247_3),((HB.out.cell (World.block_lt_of_cell? w _ hw247_4)).trans hw247_4),((HB.out.cell (World.block_lt_of_cell? w _ hw248_0)).trans hw248_0),((HB.out.cell (World.block_lt_of_cell? w _ hw248_1)).trans hw248_1),((HB.out.cell (World.block_lt_of_cell? w _ hw248_2)).trans hw248_2),((HB.out.cell (World.block_lt_of_cell? w _ hw248_3)).trans hw248_3),((HB.out.cell (World.block_lt_of_cell? w _ hw248_4)).trans hw248_4)⟩ (fun hHeld=>?_);refine with_tabW incipitref12_EqAll.tab6 incipitref12_EqAll.bits6 (fun HT_ HW_=>?_)
        generalize wr.drew = w11 at HB hx247_0 hx247_1 hx247_2 hx247_3 hx247_4 hx248_0 hx248_1 hx248_2 hx248_3 hx248_4 hHeld ⊢
        refine pure_ (i:=0) (N:=some 17) (v:=?_) (a':=?_) #[true,false,false,false,false,false,false,false,false,false] rfl rfl (any_of HT_.out (by kernel_rfl)) (fun _ _ _ h=>h) (Or.inl ⟨by rfl,?_⟩) ?_ ?_
        rotate_left
        ·intro w'
         go_simp
         with_reducible rfl
        rotate_left
        ·simp only [Act.put, List.setIfInBounds_toArray, List.set_cons_zero, List.set_cons_succ, i64_w, i32_w]
         rfl
        refine pure_ (i:=1) (N:=some 18) (v:=?_) (a':=?_) #[true,true,false,false,false,false,false,false,false,false] rfl rfl (any_of HT_.out (by kernel_rfl)) (fun _ _ _ h=>h) (Or.inl ⟨by rfl,?_⟩) ?_ ?_
        rotate_left
        ·intro w'
         go_simp
         with_reducible rfl
        rotate_left
        ·simp only [Act.put, List.setIfInBounds_toArray, List.set_cons_zero, List.set_cons_succ, i64_w, i32_w]
         rfl
        refine pure_ (i:=2) (N:=some 19) (v:=?_) (a':=?_) #[true,true,true,false,false,false,false,false,false,false] rfl rfl (any_of HT_.out (by kernel_rfl)) (fun _ _ _ h=>h) (Or.inl ⟨by rfl,?_⟩) ?_ ?_
        rotate_left
        ·intro w'
         go_simp
         with_reducible rfl
        rotate_left
        ·simp only [Act.put, List.setIfInBounds_toArray, List.set_cons_zero, List.set_cons_succ, i64_w, i32_w]
         rfl
        refine pure_ (i:=4) (N:=some 21) (v:=?_) (a':=?_) #[true,true,true,false,true,false,false,false,false,false] rfl rfl (any_of HT_.out (by kernel_rfl)) (fun _ _ _ h=>h) (Or.inl ⟨by rfl,?_⟩) ?_ ?_
        rotate_left
        ·intro w'
         go_simp
         with_reducible rfl
        rotate_left
        ·simp only [Act.put, List.setIfInBounds_toArray, List.set_cons_zero, List.set_cons_succ, i64_w, i32_w]
         rfl
        refine pure_ (i:=5) (N:=some 22) (v:=?_) (a':=?_) #[true,true,true,false,true,true,false,false,false,false] rfl rfl (any_of HT_.out (by kernel_rfl)) (fun _ _ _ h=>h) (Or.inl ⟨by rfl,?_⟩) ?_ ?_
        rotate_left
        ·intro w'
         go_simp
         with_reducible rfl
        rotate_left
        ·simp only [Act.put, List.setIfInBounds_toArray, List.set_cons_zero, List.set_cons_succ, i64_w, i32_w]
         rfl
        refine pure_ (i:=6) (N:=some 23) (v:=?_) (a':=?_) #[true,true,true,false,true,true,true,false,false,false] rfl rfl (any_of HT_.out (by kernel_rfl)) (fun _ _ _ h=>h) (Or.inl ⟨by rfl,?_⟩) ?_ ?_
        rotate_left
        ·intro w'
         go_simp
         with_reducible rfl
        rotate_left
        ·simp only [Act.put, List.setIfInBounds_toArray, List.set_cons_zero, List.set_cons_succ, i64_w, i32_w]
         rfl
        refine take_ (i:=3) (N:=some 20) (v:=?_) (a':=?_) #[true,true,true,true,true,true,true,false,false,false] rfl rfl (take_ofW HT_.out HW_.out (by kernel_rfl)) (fun _ _ _ h=>h) (Or.inl ⟨by rfl,?_⟩) hHeld ?_ ?_
        rotate_left
        ·rintro w' ⟨s0, s1, s2, s3, s4, s5, s6, s7, s8, s9⟩
         go_simp
         with_reducible rfl
        rotate_left
        ·simp only [Act.put, List.setIfInBounds_toArray, List.set_cons_zero, List.set_cons_succ, i64_w, i32_w]
         rfl
        refine take_ (i:=7) (N:=some 24) (v:=?_) (a':=?_) #[true,true,true,true,true,true,true,true,false,false] rfl rfl (take_ofW HT_.out HW_.out (by kernel_rfl)) (fun _ _ _ h=>h) (Or.inl ⟨by rfl,?_⟩) hHeld ?_ ?_
        rotate_left
        ·rintro w' ⟨s0, s1, s2, s3, s4, s5, s6, s7, s8, s9⟩
         go_simp
         with_reducible rfl
        rotate_left
        ·simp only [Act.put, List.setIfInBounds_toArray, List.set_cons_zero, List.set_cons_succ, i64_w, i32_w]
         rfl
        refine one_ (i:=8) (N:=some 25) #[true,true,true,true,true,true,true,true,true,false] rfl rfl (one_of HT_.out (by kernel_rfl)) (by decide) (fun K hK=>?_)
        refine goes_ Try.func19 (by kernel_rfl) rfl #[.agg #[.string ((rd_T28 l0 x5_1).f0),.int .i64 ((rd_T28 l0 x5_1).f1),.int .i64 ((rd_T28 l0 x5_1).f2),.string ((rd_T28 l0 x5_1).f3),.string ((rd_T28 l0 x5_1).f4)],.agg #[.string ((rd_T28 l1 x5_1).f0),.int .i64 ((rd_T28 l1 x5_1).f1),.int .i64 ((rd_T28 l1 x5_1).f2),.string ((rd_T28 l1 x5_1).f3),.string ((rd_T28 l1 x5_1).f4)]] (by rfl) rfl rfl (by (try simp only [List.map_toArray,List.map_cons,List.map_nil]);first | done | rfl|(simp only [List.length_drop,List.length_take];rfl)) ?_
        with_reducible refine (incipitref12_Eq.calls ((rd_T28 l0 x5_1).f0) ((rd_T28 l0 x5_1).f1) ((rd_T28 l0 x5_1).f2) ((rd_T28 l0 x5_1).f3) ((rd_T28 l0 x5_1).f4) ((rd_T28 l1 x5_1).f0) ((rd_T28 l1 x5_1).f1) ((rd_T28 l1 x5_1).f2) ((rd_T28 l1 x5_1).f3) ((rd_T28 l1 x5_1).f4) false _ A7.out).mono ?_
        rintro e w12 ⟨rfl, hb⟩
        refine ⟨_, rfl, ?_⟩
        have n0_:=Aside0.mk (below_step (by repeat (first|(with_reducible first|exact HB.out|apply below_alloc|apply pw_below_drewN|apply below_drew1)|exact HB.out)) hb)
        clear HB
        have HB := n0_
        clear n0_
        (try clear hb)
        (try clear hb2)
        (try clear hk)
        (try clear hi)
        refine hK.out _ _ ⟨((HB.out.cell (World.block_lt_of_cell? w _ hw247_0)).trans hw247_0),((HB.out.cell (World.block_lt_of_cell? w _ hw247_1)).trans hw247_1),((HB.out.cell (World.block_lt_of_cell? w _ hw247_2)).trans hw247_2),((HB.out.cell (World.block_lt_of_cell? w _ hw247_3)).trans hw247_3),((HB.out.cell (World.block_lt_of_cell? w _ hw247_4)).trans hw247_4),((HB.out.cell (World.block_lt_of_cell? w _ hw248_0)).trans hw248_0),((HB.out.cell (World.block_lt_of_cell? w _ hw248_1)).trans hw248_1),((HB.out.cell (World.block_lt_of_cell? w _ hw248_2)).trans hw248_2),((HB.out.cell (World.block_lt_of_cell? w _ hw248_3)).trans hw248_3),((HB.out.cell (World.block_lt_of_cell? w _ hw248_4)).trans hw248_4)⟩ (fun hHeld=>?_)
        clear hK K
        refine norm_ (a' := ?_) ?_ ?_
        rotate_left
        ·show Act.put _ (some 25) _ = _
         simp only [Act.put, List.setIfInBounds_toArray, List.set_cons_zero, List.set_cons_succ, i64_w, i32_w]
         rfl
        refine pure_ (i:=9) (N:=some 26) (v:=?_) (a':=?_) #[true,true,true,true,true,true,true,true,true,true] rfl rfl (any_of HT_.out (by kernel_rfl)) (fun _ _ _ h=>h) (Or.inl ⟨by rfl,?_⟩) ?_ ?_
        rotate_left
        ·intro w'
         go_simp
         with_reducible rfl
        rotate_left
        ·simp only [Act.put, List.setIfInBounds_toArray, List.set_cons_zero, List.set_cons_succ, i64_w, i32_w]
         rfl
        refine done_ (done_of HT_.out (by kernel_rfl)) ?_
        try go_wp2
        go_ret
        exact ⟨by first | rfl|(simp [errW_none,errW_some] <;> rfl)|(simp [*,errW_none,errW_some] <;> rfl),by repeat (first|(with_reducible first|exact HB.out|apply below_alloc|apply pw_below_drewN|apply below_drew1)|exact HB.out)⟩
      ·rw [if_neg c6] at H
       exact absurd H (by simp)
     ·rw [if_neg c5] at H
      exact absurd H (by simp)
    ·rw [if_neg c4] at H
     have c4b0 : decide (x5_1 < (l0.length : Int)) = false := decide_eq_false c4
     clear c4
     obtain rfl := Option.some.inj H
     simp only [Option.some.injEq, Prod.mk.injEq] at H
     obtain ⟨rfl⟩ := H
     go_wp2
     go_ret
     exact ⟨by first | rfl|(simp [errW_none,errW_some] <;> rfl)|(simp [*,errW_none,errW_some] <;> rfl),by repeat (first|(with_reducible first|exact HB.out|apply below_alloc|apply pw_below_drewN|apply below_drew1)|exact HB.out)⟩
 ·rw [if_neg c3] at H
  have c3b0 : ((l0.length : Int) == (l1.length : Int)) = false := beq_eq_false_iff_ne.mpr c3
  have c3b1 : ((l0.length : Int) != (l1.length : Int)) = true := bne_iff_ne.mpr c3
  have c3b2 : (l0.length == l1.length) = false := by first | simpa using c3|(simp at c3 ⊢; omega)
  obtain rfl := Option.some.inj H
  simp only [Option.some.injEq, Prod.mk.injEq] at H
  obtain ⟨rfl⟩ := H
  go_enter Try.func15, Try.ntmps15
  go_wp2
  go_ret
  exact ⟨by first | rfl|(simp [errW_none,errW_some] <;> rfl)|(simp [*,errW_none,errW_some] <;> rfl),by repeat (first|(with_reducible first|exact HB.out|apply below_alloc|apply pw_below_drewN|apply below_drew1)|exact HB.out)⟩

end Go.Proofs.Ytenmljkddhonmaa.MTbl

-- Written by a program of this session for this claim (out of the translation's print); Lean checks it.
namespace Go.Proofs.Ytenmljkddhonmaa.MTbl
open Go.RowKit Go.Proofs.YtenmljkddhonmaaW.PrintWords Go.Proofs.YtenmljkddhonmaaW.PrintLast Go.Proofs.YtenmljkddhonmaaW.PrintMore
attribute [local go_sem] max2_int min2_int max_two min_two max_three min_three max_four min_four   -- for this text's walks alone
set_option linter.unusedVariables false
set_option linter.unusedSimpArgs false

/-! ### incipitref12_Into: function 14 -/
def incipitref12_Into.l0 : Nat → List (S28) → Int → ByteArray → Int → Int → ByteArray → ByteArray → Option ((List (S28)))
 | 0, _, _, _, _, _, _, _ => none
 | k + 1,x0,x5,x251000,x251001,x251002,x251003,x251004=>if x5 < (x0.length : Int) then (if 0 ≤ x5 then ((incipitref12_Less.f x251000 x251001 x251002 x251003 x251004 ((rd_T28 x0 x5).f0) ((rd_T28 x0 x5).f1) ((rd_T28 x0 x5).f2) ((rd_T28 x0 x5).f3) ((rd_T28 x0 x5).f4)).bind fun t252=>(if t252 = true then (if x5 ≤ (x0.length : Int) then ((some (x0.take (x5 : Int).toNat : List (S28))).bind fun y253=>((some (([(⟨x251000,x251001,x251002,x251003,x251004⟩ : S28)] : List (S28)) : List (S28))).bind fun y257=>((some (x0.drop (x5 : Int).toNat : List (S28))).bind fun y260=>(if y257.length + y260.length < 2199023255552 then ((some (y257 ++ y260 : List (S28))).bind fun y264=>(if 0 < y264.length∧y253.length + y264.length < 2199023255552 then (some (y253 ++ y264)) else (none))) else (none))))) else (none)) else (incipitref12_Into.l0 k x0 (wrap64 (x5 + 1)) x251000 x251001 x251002 x251003 x251004))) else (none)) else (if 0 ≤ x5 then (if x5 ≤ (x0.length : Int) then ((some (x0.take (x5 : Int).toNat : List (S28))).bind fun y270=>((some (([(⟨x251000,x251001,x251002,x251003,x251004⟩ : S28)] : List (S28)) : List (S28))).bind fun y274=>((some (x0.drop (x5 : Int).toNat : List (S28))).bind fun y277=>(if y274.length + y277.length < 2199023255552 then ((some (y274 ++ y277 : List (S28))).bind fun y281=>(if 0 < y281.length∧y270.length + y281.length < 2199023255552 then (some (y270 ++ y281)) else (none))) else (none))))) else (none)) else (none))
def incipitref12_Into.f (k : Nat) (l0 : List (S28)) (a1_0 : ByteArray) (a1_1 : Int) (a1_2 : Int) (a1_3 : ByteArray) (a1_4 : ByteArray) : Option ((List (S28))):=incipitref12_Into.l0 k l0 0 a1_0 a1_1 a1_2 a1_3 a1_4
theorem incipitref12_Into.mono_l : ∀ k,(∀ y0 y1 y2 y3 y4 y5 y6,LeO (incipitref12_Into.l0 k y0 y1 y2 y3 y4 y5 y6) (incipitref12_Into.l0 (k + 1) y0 y1 y2 y3 y4 y5 y6))
 | 0 => fun _ _ _ _ _ _ _ r h => by simp [incipitref12_Into.l0] at h
 | k + 1 => by
  have ih0 := incipitref12_Into.mono_l k
  ·intro y0 y1 y2 y3 y4 y5 y6
   unfold incipitref12_Into.l0
   repeat' first
  |(with_reducible exact ih0 _ _ _ _ _ _ _)
  |(with_reducible exact LeO.refl _)
  |(with_reducible exact LeO.none _)
  |(with_reducible refine LeO.ite ?_ ?_)
  |(with_reducible refine LeO.bind ?_ (fun _ => ?_))
  |exact ih0 _ _ _ _ _ _ _
  |exact LeO.none _
  |refine LeO.ite ?_ ?_
  |refine LeO.bind ?_ (fun _ => ?_)
theorem incipitref12_Into.mono : ∀ a0 a1 a2 a3 a4 a5 k,LeO (incipitref12_Into.f k a0 a1 a2 a3 a4 a5) (incipitref12_Into.f (k + 1) a0 a1 a2 a3 a4 a5):=by
 intro a0 a1 a2 a3 a4 a5 k
 have ih0 := incipitref12_Into.mono_l k
 unfold incipitref12_Into.f
 repeat' first
  |(with_reducible exact ih0 _ _ _ _ _ _ _)
  |(with_reducible exact LeO.refl _)
  |(with_reducible exact LeO.none _)
  |(with_reducible refine LeO.ite ?_ ?_)
  |(with_reducible refine LeO.bind ?_ (fun _ => ?_))
  |exact ih0 _ _ _ _ _ _ _
  |exact LeO.none _
  |refine LeO.ite ?_ ?_
  |refine LeO.bind ?_ (fun _ => ?_)
def incipitref12_Into.T2 : Bool × List (List Nat × List Nat):=(true,[([],[]),([],[]),([1],[1]),([0,2],[0,2]),([3],[3]),([4],[4]),([4],[4]),([4],[4]),([6,7,4],[4,6,7]),([8,4],[4,8]),([5,9,4,4],[4,5,9]),([10,4],[4,10]),([4,11],[4,11])])
def incipitref12_Into.B2 : List Nat := [0, 0, 2, 7, 15, 31, 31, 31, 223, 479, 1023, 2047, 4095]
theorem incipitref12_Into.tab2 : rtab .any (opsOf Try.f14 2) = incipitref12_Into.T2 := by kernel_rfl
theorem incipitref12_Into.bits2 : waitsOk incipitref12_Into.T2.2 incipitref12_Into.B2 = true := by kernel_rfl
def incipitref12_Into.T4 : Bool × List (List Nat × List Nat):=(true,[([],[]),([],[]),([],[]),([0,1,2],[0,1,2]),([],[]),([4],[4]),([],[]),([],[]),([6,7],[6,7]),([5,8],[5,8]),([3,9,9],[3,9]),([10,10,0,1,2,3,4,5,6,7,8,9,10],[10])])
def incipitref12_Into.B4 : List Nat := [0, 0, 0, 7, 0, 16, 0, 0, 192, 496, 1023, 2047]
theorem incipitref12_Into.tab4 : rtab .any (opsOf Try.f14 4) = incipitref12_Into.T4 := by kernel_rfl
theorem incipitref12_Into.bits4 : waitsOk incipitref12_Into.T4.2 incipitref12_Into.B4 = true := by kernel_rfl
set_option maxHeartbeats 80000000 in
set_option maxRecDepth 100000 in
theorem incipitref12_Into.calls (k : Nat) (A0 : Option Addr) (c0 : Nat) (l0 : List (S28)) (a1_0 : ByteArray) (a1_1 : Int) (a1_2 : Int) (a1_3 : ByteArray) (a1_4 : ByteArray) (r : List (S28)) (w : World) (hr0 : Kd.C k28 w A0 l0.length l0) (hc0 : l0.length ≤ c0) (h : incipitref12_Into.f k l0 a1_0 a1_1 a1_2 a1_3 a1_4 = some r) :
  Calls Try.prog 14 #[.slice A0 l0.length c0,.agg #[.string a1_0,.int .i64 a1_1,.int .i64 a1_2,.string a1_3,.string a1_4]] w fun e w'=>∃ v0_ : Value,e = .returned (v0_)∧Kd.R k28 28 w' w.heap.size (fun _=>True) v0_ r∧Below w.heap.size w w':=by
 have hu28 := Try.underlying28
 have HR0 := Aside0.mk hr0
 have HC0 := Aside0.mk hc0
 clear hr0 hc0
 have HB := Aside0.mk (Below.refl w.heap.size w)
 have H : (incipitref12_Into.l0 k l0 0 a1_0 a1_1 a1_2 a1_3 a1_4) = some r := h
 clear h
 have H' := Aside0.mk H
 clear H
 go_enter Try.func14, Try.ntmps14
 go_wp2_with (first|((with_reducible refine gate_dst (N:=3) rfl ?_);refine box_event ?hg (N:=3) ?hd (cs:=#[.string a1_0,.int .i64 a1_1,.int .i64 a1_2,.string a1_3,.string a1_4]) (t:=28) ?hr ?_;(case hd=>rfl);(case hg=>rfl);(case hr=>first|(go_simp;done)|(go_simp;rfl));intro gb250 hg w3 hbox hb;have n0_:=Aside0.mk (below_step (by repeat (first|(with_reducible first|exact HB.out|apply below_alloc|apply pw_below_drewN|apply below_drew1)|exact HB.out)) hb);have n1_:=Aside0.mk (hbox);have n2_:=Aside0.mk ((by rw [hg];exact (below_size (by repeat (first|(with_reducible first|exact HB.out|apply below_alloc|apply pw_below_drewN|apply below_drew1)|exact HB.out))) : w.heap.size ≤ gb250));have n3_:=Aside0.mk ((by rw [hg];exact (below_size (by repeat (first|(with_reducible first|exact HB.out|apply below_alloc|apply pw_below_drewN|apply below_drew1)|exact HB.out))) : w.heap.size ≤ gb250));clear HB;have HB:=n0_;have BK250:=n1_;have GW250:=n2_;have GE250:=n3_;clear n0_ n1_ n2_ n3_;clear hb hbox hg))
 go_loopg [5] k (fun kq v5 w'=>∃ (x5_1 : Int),v5 = .int .i64 x5_1∧Aside0 (incipitref12_Into.l0 kq l0 x5_1 a1_0 a1_1 a1_2 a1_3 a1_4 = some r)∧Aside0 (kq ≤ k)∧Aside0 (w'.heap[gb250]? = some (.cells #[.string a1_0,.int .i64 a1_1,.int .i64 a1_2,.string a1_3,.string a1_4] 28 (0,0)))∧Aside0 (Below w.heap.size w w'))
 case atStart=>exact ⟨(0),(by first | rfl|(simp;done)|(simp [*];done)),H',⟨Nat.le_refl _⟩,⟨by (with_reducible repeat (first|refine blk_drewN ?_ _|refine blk_drew ?_|refine blk_alloc ?_ _));exact BK250.out⟩,⟨by repeat (first|(with_reducible first|exact HB.out|apply below_alloc|apply pw_below_drewN|apply below_drew1|refine below_set ?_ GE250.out)|exact HB.out)⟩⟩
 case round =>
  clear H'
  try clear c1
  try clear p2
  obtain ⟨x5_1, rfl, HA, HK1, BK250, HB⟩ := hrel
  cases gk with
  | zero => exact absurd HA.out (by simp [incipitref12_Into.l0])
  | succ k1 =>
   have H := HA.out
   clear HA
   simp only [incipitref12_Into.l0] at H
   by_cases c4 : x5_1 < (l0.length : Int)
   ·rw [if_pos c4] at H
    have c4b0 : decide (x5_1 < (l0.length : Int)) = true := decide_eq_true c4
    clear c4
    by_cases c5 : 0 ≤ x5_1
    ·rw [if_pos c5] at H
     have c5b0 : decide (0 ≤ x5_1) = true := decide_eq_true c5
     clear c5
     replace H := Option.bind_eq_some_iff.mp H
     obtain ⟨t252, A60, H⟩ := H
     replace H : (if t252 = true then (if x5_1 ≤ (l0.length : Int) then ((some (l0.take (x5_1 : Int).toNat : List (S28))).bind fun y253=>((some (([(⟨a1_0,a1_1,a1_2,a1_3,a1_4⟩ : S28)] : List (S28)) : List (S28))).bind fun y257=>((some (l0.drop (x5_1 : Int).toNat : List (S28))).bind fun y260=>(if y257.length + y260.length < 2199023255552 then ((some (y257 ++ y260 : List (S28))).bind fun y264=>(if 0 < y264.length∧y253.length + y264.length < 2199023255552 then (some (y253 ++ y264)) else (none))) else (none))))) else (none)) else (incipitref12_Into.l0 k1 l0 (wrap64 (x5_1 + 1)) a1_0 a1_1 a1_2 a1_3 a1_4)) = some r:=H
     have A6 := Aside0.mk A60
     clear A60
     by_cases c7 : t252 = true
     ·subst c7
      have H1 : (if x5_1 ≤ (l0.length : Int) then ((some (l0.take (x5_1 : Int).toNat : List (S28))).bind fun y253=>((some (([(⟨a1_0,a1_1,a1_2,a1_3,a1_4⟩ : S28)] : List (S28)) : List (S28))).bind fun y257=>((some (l0.drop (x5_1 : Int).toNat : List (S28))).bind fun y260=>(if y257.length + y260.length < 2199023255552 then ((some (y257 ++ y260 : List (S28))).bind fun y264=>(if 0 < y264.length∧y253.length + y264.length < 2199023255552 then (some (y253 ++ y264)) else (none))) else (none))))) else (none)) = some r:=by rw [if_pos rfl] at H;exact H
      clear H
      have H := H1
      clear H1
      have c8b0 := eq_true (of_decide_eq_true (by first|(with_reducible assumption) | assumption) : 0 ≤ x5_1)
      by_cases c9 : x5_1 ≤ (l0.length : Int)
      ·rw [if_pos c9] at H
       have c9b0 := eq_true c9
       have c9b1 : decide (x5_1 ≤ (l0.length : Int)) = true := decide_eq_true c9
       clear c9
       obtain ⟨y253, hy253⟩ : ∃ y_ : List (S28), y_ = (l0.take (x5_1 : Int).toNat) := ⟨_, rfl⟩
       replace H : ((some (([(⟨a1_0,a1_1,a1_2,a1_3,a1_4⟩ : S28)] : List (S28)) : List (S28))).bind fun y257=>((some (l0.drop (x5_1 : Int).toNat : List (S28))).bind fun y260=>(if y257.length + y260.length < 2199023255552 then ((some (y257 ++ y260 : List (S28))).bind fun y264=>(if 0 < y264.length∧y253.length + y264.length < 2199023255552 then (some (y253 ++ y264)) else (none))) else (none)))) = some r:=by first|(rw [hy253];with_reducible exact H)|(have H2_:=(Option.bind_some _ _).symm.trans H;rw [hy253];with_reducible exact H2_)|(have H2_:=(Option.bind_some _ _).symm.trans H;with_reducible exact H2_) | with_reducible exact H|(rw [hy253];exact H)|exact H
       have Ny253 := Aside0.mk hy253
       clear hy253
       obtain ⟨y257,hy257⟩ : ∃ y_ : List (S28),y_ = (([(⟨a1_0,a1_1,a1_2,a1_3,a1_4⟩ : S28)] : List (S28))):=⟨_,rfl⟩
       replace H : ((some (l0.drop (x5_1 : Int).toNat : List (S28))).bind fun y260=>(if y257.length + y260.length < 2199023255552 then ((some (y257 ++ y260 : List (S28))).bind fun y264=>(if 0 < y264.length∧y253.length + y264.length < 2199023255552 then (some (y253 ++ y264)) else (none))) else (none))) = some r:=by first|(rw [hy257];with_reducible exact H)|(have H2_:=(Option.bind_some _ _).symm.trans H;rw [hy257];with_reducible exact H2_)|(have H2_:=(Option.bind_some _ _).symm.trans H;with_reducible exact H2_) | with_reducible exact H|(rw [hy257];exact H)|exact H
       have Ny257 := Aside0.mk hy257
       clear hy257
       have c10b0 := eq_true (of_decide_eq_true (by first|(with_reducible assumption) | assumption) : 0 ≤ x5_1)
       have c11b0:=eq_true (of_decide_eq_true (by first|(with_reducible assumption) | assumption) : x5_1 ≤ (l0.length : Int))
       obtain ⟨y260, hy260⟩ : ∃ y_ : List (S28), y_ = (l0.drop (x5_1 : Int).toNat) := ⟨_, rfl⟩
       replace H : (if y257.length + y260.length < 2199023255552 then ((some (y257 ++ y260 : List (S28))).bind fun y264=>(if 0 < y264.length∧y253.length + y264.length < 2199023255552 then (some (y253 ++ y264)) else (none))) else (none)) = some r:=by first|(rw [hy260];with_reducible exact H)|(have H2_:=(Option.bind_some _ _).symm.trans H;rw [hy260];with_reducible exact H2_)|(have H2_:=(Option.bind_some _ _).symm.trans H;with_reducible exact H2_) | with_reducible exact H|(rw [hy260];exact H)|exact H
       have Ny260 := Aside0.mk hy260
       clear hy260
       by_cases c12 : y257.length + y260.length < 2199023255552
       ·rw [if_pos c12] at H
        have LMc12 := Aside0.mk c12
        clear c12
        obtain ⟨y264, hy264⟩ : ∃ y_ : List (S28), y_ = (y257 ++ y260) := ⟨_, rfl⟩
        replace H : (if 0 < y264.length∧y253.length + y264.length < 2199023255552 then (some (y253 ++ y264)) else (none)) = some r:=by first|(rw [hy264];with_reducible exact H)|(have H2_:=(Option.bind_some _ _).symm.trans H;rw [hy264];with_reducible exact H2_)|(have H2_:=(Option.bind_some _ _).symm.trans H;with_reducible exact H2_) | with_reducible exact H|(rw [hy264];exact H)|exact H
        have Ny264 := Aside0.mk hy264
        clear hy264
        by_cases c13 : 0 < y264.length ∧ y253.length + y264.length < 2199023255552
        ·rw [if_pos c13] at H
         have LMc13 := Aside0.mk c13
         clear c13
         obtain ⟨y267, hy267⟩ : ∃ y_ : List (S28), y_ = (y253 ++ y264) := ⟨_, rfl⟩
         replace H : (some y267) = some r:=by first|(rw [hy267];with_reducible exact H)|(have H2_:=(Option.bind_some _ _).symm.trans H;rw [hy267];with_reducible exact H2_)|(have H2_:=(Option.bind_some _ _).symm.trans H;with_reducible exact H2_) | with_reducible exact H|(rw [hy267];exact H)|exact H
         have Ny267 := Aside0.mk hy267
         clear hy267
         obtain rfl := Option.some.inj H
         simp only [Option.some.injEq, Prod.mk.injEq] at H
         obtain ⟨rfl⟩ := H
         try go_wp2
         have n0_ := Aside0.mk (blk_drew BK250.out)
         have n1_ := Aside0.mk (below_drew1 HB.out)
         clear BK250
         clear HB
         have BK250 := n0_
         have HB := n1_
         clear n0_ n1_
         have p251 : 0 ≤ (x5_1 : Int) := of_decide_eq_true (by first|(with_reducible assumption) | assumption)
         have q251 : x5_1 < (l0.length : Int) := of_decide_eq_true (by first|(with_reducible assumption) | assumption)
         obtain ⟨ad251, e251, hx251_0, hx251_1, hx251_2, hx251_3, hx251_4⟩ := at_T28 HR0.out x5_1 p251 q251
         have hw251_4 := hx251_4
         have hw251_3 := hx251_3
         have hw251_2 := hx251_2
         have hw251_1 := hx251_1
         have hw251_0 := hx251_0
         cases e251
         replace hx251_0 := (HB.out.cell (World.block_lt_of_cell? w _ hx251_0)).trans hx251_0
         replace hx251_1 := (HB.out.cell (World.block_lt_of_cell? w _ hx251_1)).trans hx251_1
         replace hx251_2 := (HB.out.cell (World.block_lt_of_cell? w _ hx251_2)).trans hx251_2
         replace hx251_3 := (HB.out.cell (World.block_lt_of_cell? w _ hx251_3)).trans hx251_3
         replace hx251_4 := (HB.out.cell (World.block_lt_of_cell? w _ hx251_4)).trans hx251_4
         replace p251 := eq_true p251
         replace q251 := eq_true q251
         refine start_ (n:=13) (S:=fun w'=>w'.cell? ⟨gb250,0,none⟩ = some (.string a1_0)∧w'.cell? ⟨gb250,1,none⟩ = some (.int .i64 a1_1)∧w'.cell? ⟨gb250,2,none⟩ = some (.int .i64 a1_2)∧w'.cell? ⟨gb250,3,none⟩ = some (.string a1_3)∧w'.cell? ⟨gb250,4,none⟩ = some (.string a1_4)∧w'.cell? (ad251.add ((x5_1).toNat * 5)) = some (.string ((rd_T28 l0 x5_1).f0))∧w'.cell? ⟨(ad251.add ((x5_1).toNat * 5)).block,(ad251.add ((x5_1).toNat * 5)).off + 1,none⟩ = some (.int .i64 ((rd_T28 l0 x5_1).f1))∧w'.cell? ⟨(ad251.add ((x5_1).toNat * 5)).block,(ad251.add ((x5_1).toNat * 5)).off + 2,none⟩ = some (.int .i64 ((rd_T28 l0 x5_1).f2))∧w'.cell? ⟨(ad251.add ((x5_1).toNat * 5)).block,(ad251.add ((x5_1).toNat * 5)).off + 3,none⟩ = some (.string ((rd_T28 l0 x5_1).f3))∧w'.cell? ⟨(ad251.add ((x5_1).toNat * 5)).block,(ad251.add ((x5_1).toNat * 5)).off + 4,none⟩ = some (.string ((rd_T28 l0 x5_1).f4))) (ds:=[]) #[false,false,false,false,false,false,false,false,false,false,false,false,false] (by kernel_rfl) rfl rfl ⟨(blk_cell BK250.out 0).trans rfl,(blk_cell BK250.out 1).trans rfl,(blk_cell BK250.out 2).trans rfl,(blk_cell BK250.out 3).trans rfl,(blk_cell BK250.out 4).trans rfl,((HB.out.cell (World.block_lt_of_cell? w _ hw251_0)).trans hw251_0),((HB.out.cell (World.block_lt_of_cell? w _ hw251_1)).trans hw251_1),((HB.out.cell (World.block_lt_of_cell? w _ hw251_2)).trans hw251_2),((HB.out.cell (World.block_lt_of_cell? w _ hw251_3)).trans hw251_3),((HB.out.cell (World.block_lt_of_cell? w _ hw251_4)).trans hw251_4)⟩ (fun hHeld=>?_);refine with_tabW incipitref12_Into.tab2 incipitref12_Into.bits2 (fun HT_ HW_=>?_)
         generalize wr.drew = w14 at BK250 HB hx251_0 hx251_1 hx251_2 hx251_3 hx251_4 hHeld ⊢
         refine pure_ (i:=0) (N:=some 6) (v:=?_) (a':=?_) #[true,false,false,false,false,false,false,false,false,false,false,false,false] rfl rfl (any_of HT_.out (by kernel_rfl)) (fun _ _ _ h=>h) (Or.inl ⟨by rfl,?_⟩) ?_ ?_
         rotate_left
         ·intro w'
          go_simp
          with_reducible rfl
         rotate_left
         ·simp only [Act.put, List.setIfInBounds_toArray, List.set_cons_zero, List.set_cons_succ, i64_w, i32_w]
          rfl
         refine pure_ (i:=1) (N:=some 7) (v:=?_) (a':=?_) #[true,true,false,false,false,false,false,false,false,false,false,false,false] rfl rfl (any_of HT_.out (by kernel_rfl)) (fun _ _ _ h=>h) (Or.inl ⟨by rfl,?_⟩) ?_ ?_
         rotate_left
         ·intro w'
          go_simp
          with_reducible rfl
         rotate_left
         ·simp only [Act.put, List.setIfInBounds_toArray, List.set_cons_zero, List.set_cons_succ, i64_w, i32_w]
          rfl
         refine pure_ (i:=2) (N:=some 8) (v:=?_) (a':=?_) #[true,true,true,false,false,false,false,false,false,false,false,false,false] rfl rfl (any_of HT_.out (by kernel_rfl)) (fun _ _ _ h=>h) (Or.inl ⟨by rfl,?_⟩) ?_ ?_
         rotate_left
         ·intro w'
          go_simp
          with_reducible rfl
         rotate_left
         ·simp only [Act.put, List.setIfInBounds_toArray, List.set_cons_zero, List.set_cons_succ, i64_w, i32_w]
          rfl
         refine pure_ (i:=3) (N:=some 9) (v:=?_) (a':=?_) #[true,true,true,true,false,false,false,false,false,false,false,false,false] rfl rfl (any_of HT_.out (by kernel_rfl)) (fun _ _ _ h=>h) (Or.inl ⟨by rfl,?_⟩) ?_ ?_
         rotate_left
         ·intro w'
          go_simp
          with_reducible rfl
         rotate_left
         ·simp only [Act.put, List.setIfInBounds_toArray, List.set_cons_zero, List.set_cons_succ, i64_w, i32_w]
          rfl
         refine pure_ (i:=4) (N:=some 10) (v:=?_) (a':=?_) #[true,true,true,true,true,false,false,false,false,false,false,false,false] rfl rfl (any_of HT_.out (by kernel_rfl)) (fun _ _ _ h=>h) (Or.inl ⟨by rfl,?_⟩) ?_ ?_
         rotate_left
         ·intro w'
          go_simp
          with_reducible rfl
         rotate_left
         ·simp only [Act.put, List.setIfInBounds_toArray, List.set_cons_zero, List.set_cons_succ, i64_w, i32_w]
          rfl
         refine pure_ (i:=6) (N:=some 12) (v:=?_) (a':=?_) #[true,true,true,true,true,false,true,false,false,false,false,false,false] rfl rfl (any_of HT_.out (by kernel_rfl)) (fun _ _ _ h=>h) (Or.inl ⟨by rfl,?_⟩) ?_ ?_
         rotate_left
         ·intro w'
          go_simp
          with_reducible rfl
         rotate_left
         ·simp only [Act.put, List.setIfInBounds_toArray, List.set_cons_zero, List.set_cons_succ, i64_w, i32_w]
          rfl
         refine pure_ (i:=7) (N:=some 13) (v:=?_) (a':=?_) #[true,true,true,true,true,false,true,true,false,false,false,false,false] rfl rfl (any_of HT_.out (by kernel_rfl)) (fun _ _ _ h=>h) (Or.inl ⟨by rfl,?_⟩) ?_ ?_
         rotate_left
         ·intro w'
          go_simp
          with_reducible rfl
         rotate_left
         ·simp only [Act.put, List.setIfInBounds_toArray, List.set_cons_zero, List.set_cons_succ, i64_w, i32_w]
          rfl
         refine pure_ (i:=8) (N:=some 14) (v:=?_) (a':=?_) #[true,true,true,true,true,false,true,true,true,false,false,false,false] rfl rfl (any_of HT_.out (by kernel_rfl)) (fun _ _ _ h=>h) (Or.inl ⟨by rfl,?_⟩) ?_ ?_
         rotate_left
         ·intro w'
          go_simp
          with_reducible rfl
         rotate_left
         ·simp only [Act.put, List.setIfInBounds_toArray, List.set_cons_zero, List.set_cons_succ, i64_w, i32_w]
          rfl
         refine take_ (i:=5) (N:=some 11) (v:=?_) (a':=?_) #[true,true,true,true,true,true,true,true,true,false,false,false,false] rfl rfl (take_ofW HT_.out HW_.out (by kernel_rfl)) (fun _ _ _ h=>h) (Or.inl ⟨by rfl,?_⟩) hHeld ?_ ?_
         rotate_left
         ·rintro w' ⟨s0, s1, s2, s3, s4, s5, s6, s7, s8, s9⟩
          go_simp
          with_reducible rfl
         rotate_left
         ·simp only [Act.put, List.setIfInBounds_toArray, List.set_cons_zero, List.set_cons_succ, i64_w, i32_w]
          rfl
         refine take_ (i:=9) (N:=some 15) (v:=?_) (a':=?_) #[true,true,true,true,true,true,true,true,true,true,false,false,false] rfl rfl (take_ofW HT_.out HW_.out (by kernel_rfl)) (fun _ _ _ h=>h) (Or.inl ⟨by rfl,?_⟩) hHeld ?_ ?_
         rotate_left
         ·rintro w' ⟨s0, s1, s2, s3, s4, s5, s6, s7, s8, s9⟩
          go_simp
          with_reducible rfl
         rotate_left
         ·simp only [Act.put, List.setIfInBounds_toArray, List.set_cons_zero, List.set_cons_succ, i64_w, i32_w]
          rfl
         refine one_ (i:=10) (N:=some 16) #[true,true,true,true,true,true,true,true,true,true,true,false,false] rfl rfl (one_of HT_.out (by kernel_rfl)) (by decide) (fun K hK=>?_)
         refine goes_ Try.func36 (by kernel_rfl) rfl #[.agg #[.string a1_0,.int .i64 a1_1,.int .i64 a1_2,.string a1_3,.string a1_4],.agg #[.string ((rd_T28 l0 x5_1).f0),.int .i64 ((rd_T28 l0 x5_1).f1),.int .i64 ((rd_T28 l0 x5_1).f2),.string ((rd_T28 l0 x5_1).f3),.string ((rd_T28 l0 x5_1).f4)]] (by rfl) rfl rfl (by (try simp only [List.map_toArray,List.map_cons,List.map_nil]);first | done | rfl|(simp only [List.length_drop,List.length_take];rfl)) ?_
         with_reducible refine (incipitref12_Less.calls a1_0 a1_1 a1_2 a1_3 a1_4 ((rd_T28 l0 x5_1).f0) ((rd_T28 l0 x5_1).f1) ((rd_T28 l0 x5_1).f2) ((rd_T28 l0 x5_1).f3) ((rd_T28 l0 x5_1).f4) true _ A6.out).mono ?_
         rintro e w15 ⟨rfl, hb⟩
         refine ⟨_, rfl, ?_⟩
         have n0_:=Aside0.mk (blk_below (g:=gb250) (o:=.cells #[.string a1_0,.int .i64 a1_1,.int .i64 a1_2,.string a1_3,.string a1_4] 28 (0,0)) (by (with_reducible repeat (first|refine blk_drewN ?_ _|refine blk_drew ?_|refine blk_alloc ?_ _));exact BK250.out) hb)
         have n1_:=Aside0.mk (below_step (by repeat (first|(with_reducible first|exact HB.out|apply below_alloc|apply pw_below_drewN|apply below_drew1|refine below_set ?_ GE250.out)|exact HB.out)) hb)
         clear BK250
         clear HB
         have BK250 := n0_
         have HB := n1_
         clear n0_ n1_
         (try clear hb)
         (try clear hb2)
         (try clear hk)
         (try clear hi)
         refine hK.out _ _ ⟨(blk_cell BK250.out 0).trans rfl,(blk_cell BK250.out 1).trans rfl,(blk_cell BK250.out 2).trans rfl,(blk_cell BK250.out 3).trans rfl,(blk_cell BK250.out 4).trans rfl,((HB.out.cell (World.block_lt_of_cell? w _ hw251_0)).trans hw251_0),((HB.out.cell (World.block_lt_of_cell? w _ hw251_1)).trans hw251_1),((HB.out.cell (World.block_lt_of_cell? w _ hw251_2)).trans hw251_2),((HB.out.cell (World.block_lt_of_cell? w _ hw251_3)).trans hw251_3),((HB.out.cell (World.block_lt_of_cell? w _ hw251_4)).trans hw251_4)⟩ (fun hHeld=>?_)
         clear hK K
         refine norm_ (a' := ?_) ?_ ?_
         rotate_left
         ·show Act.put _ (some 16) _ = _
          simp only [Act.put, List.setIfInBounds_toArray, List.set_cons_zero, List.set_cons_succ, i64_w, i32_w]
          rfl
         refine pure_ (i:=11) (N:=some 17) (v:=?_) (a':=?_) #[true,true,true,true,true,true,true,true,true,true,true,true,false] rfl rfl (any_of HT_.out (by kernel_rfl)) (fun _ _ _ h=>h) (Or.inl ⟨by rfl,?_⟩) ?_ ?_
         rotate_left
         ·intro w'
          go_simp
          with_reducible rfl
         rotate_left
         ·simp only [Act.put, List.setIfInBounds_toArray, List.set_cons_zero, List.set_cons_succ, i64_w, i32_w]
          rfl
         refine pure_ (i:=12) (N:=some 18) (v:=?_) (a':=?_) #[true,true,true,true,true,true,true,true,true,true,true,true,true] rfl rfl (any_of HT_.out (by kernel_rfl)) (fun _ _ _ h=>h) (Or.inl ⟨by rfl,?_⟩) ?_ ?_
         rotate_left
         ·intro w'
          go_simp
          with_reducible rfl
         rotate_left
         ·simp only [Act.put, List.setIfInBounds_toArray, List.set_cons_zero, List.set_cons_succ, i64_w, i32_w]
          rfl
         refine done_ (done_of HT_.out (by kernel_rfl)) ?_
         try go_wp2
         have n0_ := Aside0.mk (blk_drew BK250.out)
         have n1_ := Aside0.mk (below_drew1 HB.out)
         clear BK250
         clear HB
         have BK250 := n0_
         have HB := n1_
         clear n0_ n1_
         have q17 : (x5_1 : Int) ≤ ((l0.length : Int) : Int):=of_decide_eq_true (by first|(with_reducible assumption) | assumption)
         obtain ⟨i017, hi017, _, hsz17, _⟩ := info_parts info28
         have hroom17 : l0.length ≤ c0 := HC0.out
         have hC17 : Kd.C k28 _ (some ad251) l0.length l0 := HR0.out
         have hcut17:=cut_tomax (P:=Try.prog) 24 28 .i64 .i64 Try.underlying24 hi017 (some ad251) l0.length c0 x5_1 (of_decide_eq_true (by first|(with_reducible assumption) | assumption)) q17 hroom17
         have hr17 := Kd.C_take (m := (x5_1 : Int).toNat) hC17 (by omega)
         have hy17 : y253.length = (x5_1 : Int).toNat := (by rw [Ny253.out, List.length_take]; omega)
         rw [← Ny253.out] at hr17
         rw [← hy17] at hcut17
         have HR256 := Aside0.mk hr17
         have HC256 := Aside0.mk (show y253.length ≤ y253.length from by omega)
         clear hr17 hC17 hroom17 hi017 hsz17
         have KY17 := Aside0.mk hy17
         clear hy17
         replace q17 := eq_true q17
         have q18 : (x5_1 : Int) ≤ ((l0.length : Int) : Int):=of_decide_eq_true (by first|(with_reducible assumption) | assumption)
         obtain ⟨i018, hi018, _, hsz18, _⟩ := info_parts info28
         have hroom18 : l0.length ≤ c0 := HC0.out
         have hC18 : Kd.C k28 _ (some ad251) l0.length l0 := HR0.out
         have q018 : (0 : Int) ≤ (x5_1 : Int) := of_decide_eq_true (by first|(with_reducible assumption) | assumption)
         have hcut18:=cut_from (P:=Try.prog) 24 28 .i64 Try.underlying24 hi018 5 hsz18 (some ad251) l0.length c0 x5_1 q018 q18
         have hr18 := Kd.C_drop (m := (x5_1 : Int).toNat) (c := c0) hC18 (by omega) hroom18
         obtain ⟨A18,hA18⟩ : ∃ A1,A1 = (if c0 = (x5_1 : Int).toNat then (some ad251) else ((some ad251) : Option Addr).map (·.add ((x5_1 : Int).toNat * 5))):=⟨_,rfl⟩
         obtain ⟨c18, hc18⟩ : ∃ c1, c1 = c0 - (x5_1 : Int).toNat := ⟨_, rfl⟩
         have hy18 : y260.length = l0.length - (x5_1 : Int).toNat := (by rw [Ny260.out, List.length_drop] <;> omega)
         rw [show (l0).drop (x5_1 : Int).toNat = y260 from Ny260.out.symm] at hr18
         replace hr18 : Kd.C k28 _ A18 y260.length y260 := (by rw [hA18]; exact hr18)
         rw [← hy18, ← hA18, ← hc18] at hcut18
         have HR263 := Aside0.mk hr18
         have HC263 := Aside0.mk (show y260.length ≤ c18 from by rw [hy18, hc18]; exact Nat.sub_le_sub_right hroom18 _)
         clear hr18 hC18 hroom18 hi018 hsz18 hc18
         have KY18 := Aside0.mk hy18
         have KA18 := Aside0.mk hA18
         clear hy18 hA18
         replace q18 := eq_true q18
         refine start_ (n:=12) (S:=fun w'=>w'.cell? ⟨gb250,0,none⟩ = some (.string a1_0)∧w'.cell? ⟨gb250,1,none⟩ = some (.int .i64 a1_1)∧w'.cell? ⟨gb250,2,none⟩ = some (.int .i64 a1_2)∧w'.cell? ⟨gb250,3,none⟩ = some (.string a1_3)∧w'.cell? ⟨gb250,4,none⟩ = some (.string a1_4)) (ds:=[]) #[false,false,false,false,false,false,false,false,false,false,false,false] (by kernel_rfl) rfl rfl ⟨(blk_cell BK250.out 0).trans rfl,(blk_cell BK250.out 1).trans rfl,(blk_cell BK250.out 2).trans rfl,(blk_cell BK250.out 3).trans rfl,(blk_cell BK250.out 4).trans rfl⟩ (fun hHeld=>?_);refine with_tabW incipitref12_Into.tab4 incipitref12_Into.bits4 (fun HT_ HW_=>?_)
         generalize w15.drew = w16 at BK250 HB HR256 HR263 hHeld ⊢
         refine pure_ (i:=0) (N:=some 21) (v:=?_) (a':=?_) #[true,false,false,false,false,false,false,false,false,false,false,false] rfl rfl (any_of HT_.out (by kernel_rfl)) (fun _ _ _ h=>h) (Or.inl ⟨by rfl,?_⟩) ?_ ?_
         rotate_left
         ·intro w'
          go_simp
          with_reducible rfl
         rotate_left
         ·simp only [Act.put, List.setIfInBounds_toArray, List.set_cons_zero, List.set_cons_succ, i64_w, i32_w]
          rfl
         refine pure_ (i:=1) (N:=some 22) (v:=?_) (a':=?_) #[true,true,false,false,false,false,false,false,false,false,false,false] rfl rfl (any_of HT_.out (by kernel_rfl)) (fun _ _ _ h=>h) (Or.inl ⟨by rfl,?_⟩) ?_ ?_
         rotate_left
         ·intro w'
          go_simp
          with_reducible rfl
         rotate_left
         ·simp only [Act.put, List.setIfInBounds_toArray, List.set_cons_zero, List.set_cons_succ, i64_w, i32_w]
          rfl
         refine pure_ (i:=2) (N:=some 23) (v:=?_) (a':=?_) #[true,true,true,false,false,false,false,false,false,false,false,false] rfl rfl (any_of HT_.out (by kernel_rfl)) (fun _ _ _ h=>h) (Or.inl ⟨by rfl,?_⟩) ?_ ?_
         rotate_left
         ·intro w'
          go_simp
          with_reducible rfl
         rotate_left
         ·simp only [Act.put, List.setIfInBounds_toArray, List.set_cons_zero, List.set_cons_succ, i64_w, i32_w]
          rfl
         refine pure_ (i:=3) (N:=some 24) (v:=?_) (a':=?_) #[true,true,true,true,false,false,false,false,false,false,false,false] rfl rfl (any_of HT_.out (by kernel_rfl)) (fun _ _ _ h=>h) (Or.inl ⟨by rfl,?_⟩) ?_ ?_
         rotate_left
         ·intro w'
          go_simp
          with_reducible rfl
         rotate_left
         ·simp only [Act.put, List.setIfInBounds_toArray, List.set_cons_zero, List.set_cons_succ, i64_w, i32_w]
          rfl
         refine pure_ (i:=6) (N:=some 27) (v:=?_) (a':=?_) #[true,true,true,true,false,false,true,false,false,false,false,false] rfl rfl (any_of HT_.out (by kernel_rfl)) (fun _ _ _ h=>h) (Or.inl ⟨by rfl,?_⟩) ?_ ?_
         rotate_left
         ·intro w'
          go_simp
          with_reducible rfl
         rotate_left
         ·simp only [Act.put, List.setIfInBounds_toArray, List.set_cons_zero, List.set_cons_succ, i64_w, i32_w]
          rfl
         refine pure_ (i:=7) (N:=some 28) (v:=?_) (a':=?_) #[true,true,true,true,false,false,true,true,false,false,false,false] rfl rfl (any_of HT_.out (by kernel_rfl)) (fun _ _ _ h=>h) (Or.inl ⟨by rfl,?_⟩) ?_ ?_
         rotate_left
         ·intro w'
          go_simp
          with_reducible rfl
         rotate_left
         ·simp only [Act.put, List.setIfInBounds_toArray, List.set_cons_zero, List.set_cons_succ, i64_w, i32_w]
          rfl
         refine pure_ (i:=8) (N:=some 29) (v:=?_) (a':=?_) #[true,true,true,true,false,false,true,true,true,false,false,false] rfl rfl (any_of HT_.out (by kernel_rfl)) (fun _ _ _ h=>h) (Or.inl ⟨by rfl,?_⟩) ?_ ?_
         rotate_left
         ·intro w'
          go_simp
          with_reducible rfl
         rotate_left
         ·simp only [Act.put, List.setIfInBounds_toArray, List.set_cons_zero, List.set_cons_succ, i64_w, i32_w]
          rfl
         refine take_ (i:=4) (N:=some 25) (v:=?_) (a':=?_) #[true,true,true,true,true,false,true,true,true,false,false,false] rfl rfl (take_ofW HT_.out HW_.out (by kernel_rfl)) (fun _ _ _ h=>h) (Or.inl ⟨by rfl,?_⟩) hHeld ?_ ?_
         rotate_left
         ·rintro w' ⟨s0, s1, s2, s3, s4⟩
          go_simp
          with_reducible rfl
         rotate_left
         ·simp only [Act.put, List.setIfInBounds_toArray, List.set_cons_zero, List.set_cons_succ, i64_w, i32_w]
          rfl
         refine one_ (i:=5) (N:=some 26) #[true,true,true,true,true,true,true,true,true,false,false,false] rfl rfl (one_of HT_.out (by kernel_rfl)) (by decide) (fun K hK=>?_)
         refine Kd.R_lit_step k28 _ 28 ?hg (N:=26) ?hd (xs:=([(⟨a1_0,a1_1,a1_2,a1_3,a1_4⟩ : S28)] : List (S28))) (inner:=[.string a1_0,.int .i64 a1_1,.int .i64 a1_2,.string a1_3,.string a1_4]) (ok:=fun _=>True) (okp:=fun _=>True) ?hr ?hp (fun _ hk=>hk) trivial (Below.refl _ _) (Nat.le_refl _) (by simp) ?_;(case hd=>rfl);(case hg=>rfl);(case hr=>first|(go_simp;done)|(go_simp;rfl));(case hp=>exact (Reps.c5 (show Kd.M k28 _ _ _ (⟨a1_0,a1_1,a1_2,a1_3,a1_4⟩ : S28) [.string a1_0,.int .i64 a1_1,.int .i64 a1_2,.string a1_3,.string a1_4] from (k28_mkM _ _ _ (⟨a1_0,a1_1,a1_2,a1_3,a1_4⟩ : S28) )) (Reps.none _ _)))
         intro v258 w19 ho20 hb hg_ hnew_
         clear hg_ hnew_
         (first | rw [← Ny257.out] at ho20|(simp only [Int.reduceToNat] at ho20; rw [← Ny257.out] at ho20))
         have n0_:=Aside0.mk (Kd.R_lower (Kd.R_newB ho20 (g:=gb250) (o:=.cells #[.string a1_0,.int .i64 a1_1,.int .i64 a1_2,.string a1_3,.string a1_4] 28 (0,0)) (by (with_reducible repeat (first|refine blk_drewN ?_ _|refine blk_drew ?_|refine blk_alloc ?_ _));exact BK250.out)) (below_size (by repeat (first|(with_reducible first|exact HB.out|apply below_alloc|apply pw_below_drewN|apply below_drew1|refine below_set ?_ GE250.out)|exact HB.out))))
         have n1_:=Aside0.mk (blk_below (g:=gb250) (o:=.cells #[.string a1_0,.int .i64 a1_1,.int .i64 a1_2,.string a1_3,.string a1_4] 28 (0,0)) (by (with_reducible repeat (first|refine blk_drewN ?_ _|refine blk_drew ?_|refine blk_alloc ?_ _));exact BK250.out) hb)
         have n2_:=Aside0.mk (below_step (by repeat (first|(with_reducible first|exact HB.out|apply below_alloc|apply pw_below_drewN|apply below_drew1|refine below_set ?_ GE250.out)|exact HB.out)) hb)
         clear BK250
         clear HB
         have HO259 := n0_
         have BK250 := n1_
         have HB := n2_
         clear n0_ n1_ n2_
         clear hb ho20
         refine hK.out _ _ ⟨(blk_cell BK250.out 0).trans rfl,(blk_cell BK250.out 1).trans rfl,(blk_cell BK250.out 2).trans rfl,(blk_cell BK250.out 3).trans rfl,(blk_cell BK250.out 4).trans rfl⟩ (fun hHeld=>?_)
         clear hK K
         refine norm_ (a' := ?_) ?_ ?_
         rotate_left
         ·show Act.put _ (some 26) _ = _
          simp only [Act.put, List.setIfInBounds_toArray, List.set_cons_zero, List.set_cons_succ, i64_w, i32_w]
          rfl
         refine one_ (i:=9) (N:=some 30) #[true,true,true,true,true,true,true,true,true,true,false,false] rfl rfl (one_of HT_.out (by kernel_rfl)) (by decide) (fun K hK=>?_)
         refine Kd.R_append_rows_step k28 (w0:=w) w.heap.size (by rfl) (.tmp 26) (.tmp 29) 24 28 (.agg #[(.string ⟨#[]⟩),(.int .i64 0),(.int .i64 0),(.string ⟨#[]⟩),(.string ⟨#[]⟩)]) 64 rfl Try.underlying24 info28 rfl (by decide) (by omega) v258 y257 y260 _ _ _ (fun k_=>k_ ≠ gb250) (fun _=>False) rfl rfl ?aO ?aR (fun _ _ h=>h) (fun _ h=>h.elim) ?aF ?aB ?aS ?aL ?_
         (case aR=>repeat (first|exact (Kd.C_below HR263.out HB.out)|(with_reducible refine Kd.C_alloc ?_ _)|(with_reducible refine Kd.C_drewN ?_ _)|(with_reducible refine Kd.C_drew ?_)))
         (case aB=>exact (by repeat (first|(with_reducible first|exact HB.out|apply below_alloc|apply pw_below_drewN|apply below_drew1|refine below_set ?_ GE250.out)|exact HB.out)))
         (case aF=>exact (fun k_ hk=>Kd.freshB (g:=gb250) (o:=.cells #[.string a1_0,.int .i64 a1_1,.int .i64 a1_2,.string a1_3,.string a1_4] 28 (0,0)) (by (with_reducible repeat (first|refine blk_drewN ?_ _|refine blk_drew ?_|refine blk_alloc ?_ _));exact BK250.out) k_ hk))
         (case aO=>exact (by (with_reducible repeat (first|apply Kd.R_alloc|apply Kd.R_drewN|apply Kd.R_drew));exact Kd.R_mono HO259.out (fun _ hk=>hk.2)))
         (case aS=>exact (below_size (by repeat (first|(with_reducible first|exact HB.out|apply below_alloc|apply pw_below_drewN|apply below_drew1|refine below_set ?_ GE250.out)|exact HB.out))))
         (case aL => have := LMc12.out; omega)
         intro v265 w21 ho hb hg hat
         rw [← Ny264.out] at ho
         have n0_:=Aside0.mk (blk_grown (g:=gb250) (o:=.cells #[.string a1_0,.int .i64 a1_1,.int .i64 a1_2,.string a1_3,.string a1_4] 28 (0,0)) (by (with_reducible repeat (first|refine blk_drewN ?_ _|refine blk_drew ?_|refine blk_alloc ?_ _));exact BK250.out) hg (Kd.R_away HO259.out (fun _ hk=>hk.2)))
         have n1_ := Aside0.mk (hb)
         have n2_ := Aside0.mk (ho)
         clear BK250
         clear HB
         clear HO259
         have BK250 := n0_
         have HB := n1_
         have HO266 := n2_
         clear n0_ n1_ n2_
         clear ho hb hg hat
         obtain ⟨Ao23, co23, eo23⟩ := Kd.R_slice HO266.out
         (first | subst eo23|(injection eo23 with f1_ f2_ f3_;have f4_:=f1_.symm;have f5_:=f3_.symm;clear f1_ f2_ f3_;subst f4_;subst f5_))
         refine hK.out _ _ ⟨(blk_cell BK250.out 0).trans rfl,(blk_cell BK250.out 1).trans rfl,(blk_cell BK250.out 2).trans rfl,(blk_cell BK250.out 3).trans rfl,(blk_cell BK250.out 4).trans rfl⟩ (fun hHeld=>?_)
         clear hK K
         refine norm_ (a' := ?_) ?_ ?_
         rotate_left
         ·show Act.put _ (some 30) _ = _
          simp only [Act.put, List.setIfInBounds_toArray, List.set_cons_zero, List.set_cons_succ, i64_w, i32_w]
          rfl
         refine one_ (i:=10) (N:=some 31) #[true,true,true,true,true,true,true,true,true,true,true,false] rfl rfl (one_of HT_.out (by kernel_rfl)) (by decide) (fun K hK=>?_)
         refine Kd_append_cut_step k28 (w0:=w) w.heap.size (by rfl) (.tmp 24) (.tmp 30) 24 28 (.agg #[(.string ⟨#[]⟩),(.int .i64 0),(.int .i64 0),(.string ⟨#[]⟩),(.string ⟨#[]⟩)]) 64 rfl Try.underlying24 info28 rfl (by decide) (by omega) (some ad251) y253 y264 _ _ _ (fun k_=>some k_ ≠ (.slice Ao23 y264.length co23 : Value).ownBlock∧k_ ≠ gb250) rfl rfl ?aO ?aR (fun _ _ _ h=>h) (fun _ _ h=>h) ?aF ?aB ?aS ?aL ?_
         (case aR=>repeat (first|exact (Kd.R_reads' HO266.out).2.2|(with_reducible refine Kd.C_alloc ?_ _)|(with_reducible refine Kd.C_drewN ?_ _)|(with_reducible refine Kd.C_drew ?_)))
         (case aB=>exact (by repeat (first|(with_reducible first|exact HB.out|apply below_alloc|apply pw_below_drewN|apply below_drew1|refine below_set ?_ GE250.out)|exact HB.out)))
         (case aF=>exact (fun k_ hk=>⟨Kd.fresh' (Kd.R_lt (by (with_reducible repeat (first|apply Kd.R_alloc|apply Kd.R_drewN|apply Kd.R_drew));exact HO266.out)) k_ hk,Kd.freshB (g:=gb250) (o:=.cells #[.string a1_0,.int .i64 a1_1,.int .i64 a1_2,.string a1_3,.string a1_4] 28 (0,0)) (by (with_reducible repeat (first|refine blk_drewN ?_ _|refine blk_drew ?_|refine blk_alloc ?_ _));exact BK250.out) k_ hk⟩))
         (case aO=>exact (by (repeat (first|exact (Kd.C_below HR256.out HB.out)|(with_reducible refine Kd.C_alloc ?_ _)|(with_reducible refine Kd.C_drewN ?_ _)|(with_reducible refine Kd.C_drew ?_)))))
         (case aS=>exact (below_size (by repeat (first|(with_reducible first|exact HB.out|apply below_alloc|apply pw_below_drewN|apply below_drew1|refine below_set ?_ GE250.out)|exact HB.out))))
         (case aL => have := LMc13.out; omega)
         intro v268 w22 ho hb hg hat
         rw [← Ny267.out] at ho
         have n0_:=Aside0.mk (blk_grown (g:=gb250) (o:=.cells #[.string a1_0,.int .i64 a1_1,.int .i64 a1_2,.string a1_3,.string a1_4] 28 (0,0)) (by (with_reducible repeat (first|refine blk_drewN ?_ _|refine blk_drew ?_|refine blk_alloc ?_ _));exact BK250.out) hg (by simp [Value.ownBlock]))
         have n1_:=Aside0.mk (Kd.R_after (Kd.R_apart_nil (by (with_reducible repeat (first|apply Kd.R_alloc|apply Kd.R_drewN|apply Kd.R_drew));exact HO266.out)) hg hat)
         have n2_ := Aside0.mk (hb)
         have n3_ := Aside0.mk (ho)
         clear BK250
         clear HO266
         clear HB
         have BK250 := n0_
         have HO266 := n1_
         have HB := n2_
         have HO269 := n3_
         clear n0_ n1_ n2_ n3_
         clear ho hb hg hat
         refine hK.out _ _ ⟨(blk_cell BK250.out 0).trans rfl,(blk_cell BK250.out 1).trans rfl,(blk_cell BK250.out 2).trans rfl,(blk_cell BK250.out 3).trans rfl,(blk_cell BK250.out 4).trans rfl⟩ (fun hHeld=>?_)
         clear hK K
         refine norm_ (a' := ?_) ?_ ?_
         rotate_left
         ·show Act.put _ (some 31) _ = _
          simp only [Act.put, List.setIfInBounds_toArray, List.set_cons_zero, List.set_cons_succ, i64_w, i32_w]
          rfl
         refine pure_ (i:=11) (N:=some 4) (v:=?_) (a':=?_) #[true,true,true,true,true,true,true,true,true,true,true,true] rfl rfl (any_of HT_.out (by kernel_rfl)) (fun _ _ _ h=>h) (Or.inl ⟨by rfl,?_⟩) ?_ ?_
         rotate_left
         ·intro w'
          go_simp
          with_reducible rfl
         rotate_left
         ·simp only [Act.put, List.setIfInBounds_toArray, List.set_cons_zero, List.set_cons_succ, i64_w, i32_w]
          rfl
         refine done_ (done_of HT_.out (by kernel_rfl)) ?_
         try go_wp2
         go_ret
         exact ⟨_,by first | rfl|(simp [errW_none,errW_some] <;> rfl)|(simp [*,errW_none,errW_some] <;> rfl),by (with_reducible repeat (first|apply Kd.R_alloc|apply Kd.R_drewN|apply Kd.R_drew));exact Kd.R_mono HO269.out (fun _ hk=>trivial),by repeat (first|(with_reducible first|exact HB.out|apply below_alloc|apply pw_below_drewN|apply below_drew1|refine below_set ?_ GE250.out)|exact HB.out)⟩
        ·rw [if_neg c13] at H
         exact absurd H (by simp)
       ·rw [if_neg c12] at H
        exact absurd H (by simp)
      ·rw [if_neg c9] at H
       exact absurd H (by simp)
     ·replace c7 := Bool.eq_false_iff.mpr c7
      subst c7
      have H1 : (incipitref12_Into.l0 k1 l0 (wrap64 (x5_1 + 1)) a1_0 a1_1 a1_2 a1_3 a1_4) = some r:=by rw [if_neg (show ¬ (false = true) by decide)] at H;exact H
      clear H
      have H := H1
      clear H1
      have H' := Aside0.mk H
      clear H
      try go_wp2
      have n0_ := Aside0.mk (blk_drew BK250.out)
      have n1_ := Aside0.mk (below_drew1 HB.out)
      clear BK250
      clear HB
      have BK250 := n0_
      have HB := n1_
      clear n0_ n1_
      have p251 : 0 ≤ (x5_1 : Int) := of_decide_eq_true (by first|(with_reducible assumption) | assumption)
      have q251 : x5_1 < (l0.length : Int) := of_decide_eq_true (by first|(with_reducible assumption) | assumption)
      obtain ⟨ad251, e251, hx251_0, hx251_1, hx251_2, hx251_3, hx251_4⟩ := at_T28 HR0.out x5_1 p251 q251
      have hw251_4 := hx251_4
      have hw251_3 := hx251_3
      have hw251_2 := hx251_2
      have hw251_1 := hx251_1
      have hw251_0 := hx251_0
      cases e251
      replace hx251_0 := (HB.out.cell (World.block_lt_of_cell? w _ hx251_0)).trans hx251_0
      replace hx251_1 := (HB.out.cell (World.block_lt_of_cell? w _ hx251_1)).trans hx251_1
      replace hx251_2 := (HB.out.cell (World.block_lt_of_cell? w _ hx251_2)).trans hx251_2
      replace hx251_3 := (HB.out.cell (World.block_lt_of_cell? w _ hx251_3)).trans hx251_3
      replace hx251_4 := (HB.out.cell (World.block_lt_of_cell? w _ hx251_4)).trans hx251_4
      replace p251 := eq_true p251
      replace q251 := eq_true q251
      refine start_ (n:=13) (S:=fun w'=>w'.cell? ⟨gb250,0,none⟩ = some (.string a1_0)∧w'.cell? ⟨gb250,1,none⟩ = some (.int .i64 a1_1)∧w'.cell? ⟨gb250,2,none⟩ = some (.int .i64 a1_2)∧w'.cell? ⟨gb250,3,none⟩ = some (.string a1_3)∧w'.cell? ⟨gb250,4,none⟩ = some (.string a1_4)∧w'.cell? (ad251.add ((x5_1).toNat * 5)) = some (.string ((rd_T28 l0 x5_1).f0))∧w'.cell? ⟨(ad251.add ((x5_1).toNat * 5)).block,(ad251.add ((x5_1).toNat * 5)).off + 1,none⟩ = some (.int .i64 ((rd_T28 l0 x5_1).f1))∧w'.cell? ⟨(ad251.add ((x5_1).toNat * 5)).block,(ad251.add ((x5_1).toNat * 5)).off + 2,none⟩ = some (.int .i64 ((rd_T28 l0 x5_1).f2))∧w'.cell? ⟨(ad251.add ((x5_1).toNat * 5)).block,(ad251.add ((x5_1).toNat * 5)).off + 3,none⟩ = some (.string ((rd_T28 l0 x5_1).f3))∧w'.cell? ⟨(ad251.add ((x5_1).toNat * 5)).block,(ad251.add ((x5_1).toNat * 5)).off + 4,none⟩ = some (.string ((rd_T28 l0 x5_1).f4))) (ds:=[]) #[false,false,false,false,false,false,false,false,false,false,false,false,false] (by kernel_rfl) rfl rfl ⟨(blk_cell BK250.out 0).trans rfl,(blk_cell BK250.out 1).trans rfl,(blk_cell BK250.out 2).trans rfl,(blk_cell BK250.out 3).trans rfl,(blk_cell BK250.out 4).trans rfl,((HB.out.cell (World.block_lt_of_cell? w _ hw251_0)).trans hw251_0),((HB.out.cell (World.block_lt_of_cell? w _ hw251_1)).trans hw251_1),((HB.out.cell (World.block_lt_of_cell? w _ hw251_2)).trans hw251_2),((HB.out.cell (World.block_lt_of_cell? w _ hw251_3)).trans hw251_3),((HB.out.cell (World.block_lt_of_cell? w _ hw251_4)).trans hw251_4)⟩ (fun hHeld=>?_);refine with_tabW incipitref12_Into.tab2 incipitref12_Into.bits2 (fun HT_ HW_=>?_)
      generalize wr.drew = w24 at BK250 HB hx251_0 hx251_1 hx251_2 hx251_3 hx251_4 hHeld ⊢
      refine pure_ (i:=0) (N:=some 6) (v:=?_) (a':=?_) #[true,false,false,false,false,false,false,false,false,false,false,false,false] rfl rfl (any_of HT_.out (by kernel_rfl)) (fun _ _ _ h=>h) (Or.inl ⟨by rfl,?_⟩) ?_ ?_
      rotate_left
      ·intro w'
       go_simp
       with_reducible rfl
      rotate_left
      ·simp only [Act.put, List.setIfInBounds_toArray, List.set_cons_zero, List.set_cons_succ, i64_w, i32_w]
       rfl
      refine pure_ (i:=1) (N:=some 7) (v:=?_) (a':=?_) #[true,true,false,false,false,false,false,false,false,false,false,false,false] rfl rfl (any_of HT_.out (by kernel_rfl)) (fun _ _ _ h=>h) (Or.inl ⟨by rfl,?_⟩) ?_ ?_
      rotate_left
      ·intro w'
       go_simp
       with_reducible rfl
      rotate_left
      ·simp only [Act.put, List.setIfInBounds_toArray, List.set_cons_zero, List.set_cons_succ, i64_w, i32_w]
       rfl
      refine pure_ (i:=2) (N:=some 8) (v:=?_) (a':=?_) #[true,true,true,false,false,false,false,false,false,false,false,false,false] rfl rfl (any_of HT_.out (by kernel_rfl)) (fun _ _ _ h=>h) (Or.inl ⟨by rfl,?_⟩) ?_ ?_
      rotate_left
      ·intro w'
       go_simp
       with_reducible rfl
      rotate_left
      ·simp only [Act.put, List.setIfInBounds_toArray, List.set_cons_zero, List.set_cons_succ, i64_w, i32_w]
       rfl
      refine pure_ (i:=3) (N:=some 9) (v:=?_) (a':=?_) #[true,true,true,true,false,false,false,false,false,false,false,false,false] rfl rfl (any_of HT_.out (by kernel_rfl)) (fun _ _ _ h=>h) (Or.inl ⟨by rfl,?_⟩) ?_ ?_
      rotate_left
      ·intro w'
       go_simp
       with_reducible rfl
      rotate_left
      ·simp only [Act.put, List.setIfInBounds_toArray, List.set_cons_zero, List.set_cons_succ, i64_w, i32_w]
       rfl
      refine pure_ (i:=4) (N:=some 10) (v:=?_) (a':=?_) #[true,true,true,true,true,false,false,false,false,false,false,false,false] rfl rfl (any_of HT_.out (by kernel_rfl)) (fun _ _ _ h=>h) (Or.inl ⟨by rfl,?_⟩) ?_ ?_
      rotate_left
      ·intro w'
       go_simp
       with_reducible rfl
      rotate_left
      ·simp only [Act.put, List.setIfInBounds_toArray, List.set_cons_zero, List.set_cons_succ, i64_w, i32_w]
       rfl
      refine pure_ (i:=6) (N:=some 12) (v:=?_) (a':=?_) #[true,true,true,true,true,false,true,false,false,false,false,false,false] rfl rfl (any_of HT_.out (by kernel_rfl)) (fun _ _ _ h=>h) (Or.inl ⟨by rfl,?_⟩) ?_ ?_
      rotate_left
      ·intro w'
       go_simp
       with_reducible rfl
      rotate_left
      ·simp only [Act.put, List.setIfInBounds_toArray, List.set_cons_zero, List.set_cons_succ, i64_w, i32_w]
       rfl
      refine pure_ (i:=7) (N:=some 13) (v:=?_) (a':=?_) #[true,true,true,true,true,false,true,true,false,false,false,false,false] rfl rfl (any_of HT_.out (by kernel_rfl)) (fun _ _ _ h=>h) (Or.inl ⟨by rfl,?_⟩) ?_ ?_
      rotate_left
      ·intro w'
       go_simp
       with_reducible rfl
      rotate_left
      ·simp only [Act.put, List.setIfInBounds_toArray, List.set_cons_zero, List.set_cons_succ, i64_w, i32_w]
       rfl
      refine pure_ (i:=8) (N:=some 14) (v:=?_) (a':=?_) #[true,true,true,true,true,false,true,true,true,false,false,false,false] rfl rfl (any_of HT_.out (by kernel_rfl)) (fun _ _ _ h=>h) (Or.inl ⟨by rfl,?_⟩) ?_ ?_
      rotate_left
      ·intro w'
       go_simp
       with_reducible rfl
      rotate_left
      ·simp only [Act.put, List.setIfInBounds_toArray, List.set_cons_zero, List.set_cons_succ, i64_w, i32_w]
       rfl
      refine take_ (i:=5) (N:=some 11) (v:=?_) (a':=?_) #[true,true,true,true,true,true,true,true,true,false,false,false,false] rfl rfl (take_ofW HT_.out HW_.out (by kernel_rfl)) (fun _ _ _ h=>h) (Or.inl ⟨by rfl,?_⟩) hHeld ?_ ?_
      rotate_left
      ·rintro w' ⟨s0, s1, s2, s3, s4, s5, s6, s7, s8, s9⟩
       go_simp
       with_reducible rfl
      rotate_left
      ·simp only [Act.put, List.setIfInBounds_toArray, List.set_cons_zero, List.set_cons_succ, i64_w, i32_w]
       rfl
      refine take_ (i:=9) (N:=some 15) (v:=?_) (a':=?_) #[true,true,true,true,true,true,true,true,true,true,false,false,false] rfl rfl (take_ofW HT_.out HW_.out (by kernel_rfl)) (fun _ _ _ h=>h) (Or.inl ⟨by rfl,?_⟩) hHeld ?_ ?_
      rotate_left
      ·rintro w' ⟨s0, s1, s2, s3, s4, s5, s6, s7, s8, s9⟩
       go_simp
       with_reducible rfl
      rotate_left
      ·simp only [Act.put, List.setIfInBounds_toArray, List.set_cons_zero, List.set_cons_succ, i64_w, i32_w]
       rfl
      refine one_ (i:=10) (N:=some 16) #[true,true,true,true,true,true,true,true,true,true,true,false,false] rfl rfl (one_of HT_.out (by kernel_rfl)) (by decide) (fun K hK=>?_)
      refine goes_ Try.func36 (by kernel_rfl) rfl #[.agg #[.string a1_0,.int .i64 a1_1,.int .i64 a1_2,.string a1_3,.string a1_4],.agg #[.string ((rd_T28 l0 x5_1).f0),.int .i64 ((rd_T28 l0 x5_1).f1),.int .i64 ((rd_T28 l0 x5_1).f2),.string ((rd_T28 l0 x5_1).f3),.string ((rd_T28 l0 x5_1).f4)]] (by rfl) rfl rfl (by (try simp only [List.map_toArray,List.map_cons,List.map_nil]);first | done | rfl|(simp only [List.length_drop,List.length_take];rfl)) ?_
      with_reducible refine (incipitref12_Less.calls a1_0 a1_1 a1_2 a1_3 a1_4 ((rd_T28 l0 x5_1).f0) ((rd_T28 l0 x5_1).f1) ((rd_T28 l0 x5_1).f2) ((rd_T28 l0 x5_1).f3) ((rd_T28 l0 x5_1).f4) false _ A6.out).mono ?_
      rintro e w25 ⟨rfl, hb⟩
      refine ⟨_, rfl, ?_⟩
      have n0_:=Aside0.mk (blk_below (g:=gb250) (o:=.cells #[.string a1_0,.int .i64 a1_1,.int .i64 a1_2,.string a1_3,.string a1_4] 28 (0,0)) (by (with_reducible repeat (first|refine blk_drewN ?_ _|refine blk_drew ?_|refine blk_alloc ?_ _));exact BK250.out) hb)
      have n1_:=Aside0.mk (below_step (by repeat (first|(with_reducible first|exact HB.out|apply below_alloc|apply pw_below_drewN|apply below_drew1|refine below_set ?_ GE250.out)|exact HB.out)) hb)
      clear BK250
      clear HB
      have BK250 := n0_
      have HB := n1_
      clear n0_ n1_
      (try clear hb)
      (try clear hb2)
      (try clear hk)
      (try clear hi)
      refine hK.out _ _ ⟨(blk_cell BK250.out 0).trans rfl,(blk_cell BK250.out 1).trans rfl,(blk_cell BK250.out 2).trans rfl,(blk_cell BK250.out 3).trans rfl,(blk_cell BK250.out 4).trans rfl,((HB.out.cell (World.block_lt_of_cell? w _ hw251_0)).trans hw251_0),((HB.out.cell (World.block_lt_of_cell? w _ hw251_1)).trans hw251_1),((HB.out.cell (World.block_lt_of_cell? w _ hw251_2)).trans hw251_2),((HB.out.cell (World.block_lt_of_cell? w _ hw251_3)).trans hw251_3),((HB.out.cell (World.block_lt_of_cell? w _ hw251_4)).trans hw251_4)⟩ (fun hHeld=>?_)
      clear hK K
      refine norm_ (a' := ?_) ?_ ?_
      rotate_left
      ·show Act.put _ (some 16) _ = _
       simp only [Act.put, List.setIfInBounds_toArray, List.set_cons_zero, List.set_cons_succ, i64_w, i32_w]
       rfl
      refine pure_ (i:=11) (N:=some 17) (v:=?_) (a':=?_) #[true,true,true,true,true,true,true,true,true,true,true,true,false] rfl rfl (any_of HT_.out (by kernel_rfl)) (fun _ _ _ h=>h) (Or.inl ⟨by rfl,?_⟩) ?_ ?_
      rotate_left
      ·intro w'
       go_simp
       with_reducible rfl
      rotate_left
      ·simp only [Act.put, List.setIfInBounds_toArray, List.set_cons_zero, List.set_cons_succ, i64_w, i32_w]
       rfl
      refine pure_ (i:=12) (N:=some 18) (v:=?_) (a':=?_) #[true,true,true,true,true,true,true,true,true,true,true,true,true] rfl rfl (any_of HT_.out (by kernel_rfl)) (fun _ _ _ h=>h) (Or.inl ⟨by rfl,?_⟩) ?_ ?_
      rotate_left
      ·intro w'
       go_simp
       with_reducible rfl
      rotate_left
      ·simp only [Act.put, List.setIfInBounds_toArray, List.set_cons_zero, List.set_cons_succ, i64_w, i32_w]
       rfl
      refine done_ (done_of HT_.out (by kernel_rfl)) ?_
      try go_wp2
      go_roundg k1
      case measure => have := HK1.out; omega
      case rel=>exact ⟨(wrap64 (x5_1 + 1)),(by first | rfl|(simp;done)|(simp [*];done)),H',⟨by have:=HK1.out;omega⟩,⟨by (with_reducible repeat (first|refine blk_drewN ?_ _|refine blk_drew ?_|refine blk_alloc ?_ _));exact BK250.out⟩,⟨by repeat (first|(with_reducible first|exact HB.out|apply below_alloc|apply pw_below_drewN|apply below_drew1|refine below_set ?_ GE250.out)|exact HB.out)⟩⟩
    ·rw [if_neg c5] at H
     exact absurd H (by simp)
   ·rw [if_neg c4] at H
    have c4b0 : decide (x5_1 < (l0.length : Int)) = false := decide_eq_false c4
    clear c4
    by_cases c26 : 0 ≤ x5_1
    ·rw [if_pos c26] at H
     have c26b0 := eq_true c26
     have c26b1 : decide (0 ≤ x5_1) = true := decide_eq_true c26
     clear c26
     by_cases c27 : x5_1 ≤ (l0.length : Int)
     ·rw [if_pos c27] at H
      have c27b0 := eq_true c27
      have c27b1 : decide (x5_1 ≤ (l0.length : Int)) = true := decide_eq_true c27
      clear c27
      obtain ⟨y270, hy270⟩ : ∃ y_ : List (S28), y_ = (l0.take (x5_1 : Int).toNat) := ⟨_, rfl⟩
      replace H : ((some (([(⟨a1_0,a1_1,a1_2,a1_3,a1_4⟩ : S28)] : List (S28)) : List (S28))).bind fun y274=>((some (l0.drop (x5_1 : Int).toNat : List (S28))).bind fun y277=>(if y274.length + y277.length < 2199023255552 then ((some (y274 ++ y277 : List (S28))).bind fun y281=>(if 0 < y281.length∧y270.length + y281.length < 2199023255552 then (some (y270 ++ y281)) else (none))) else (none)))) = some r:=by first|(rw [hy270];with_reducible exact H)|(have H2_:=(Option.bind_some _ _).symm.trans H;rw [hy270];with_reducible exact H2_)|(have H2_:=(Option.bind_some _ _).symm.trans H;with_reducible exact H2_) | with_reducible exact H|(rw [hy270];exact H)|exact H
      have Ny270 := Aside0.mk hy270
      clear hy270
      obtain ⟨y274,hy274⟩ : ∃ y_ : List (S28),y_ = (([(⟨a1_0,a1_1,a1_2,a1_3,a1_4⟩ : S28)] : List (S28))):=⟨_,rfl⟩
      replace H : ((some (l0.drop (x5_1 : Int).toNat : List (S28))).bind fun y277=>(if y274.length + y277.length < 2199023255552 then ((some (y274 ++ y277 : List (S28))).bind fun y281=>(if 0 < y281.length∧y270.length + y281.length < 2199023255552 then (some (y270 ++ y281)) else (none))) else (none))) = some r:=by first|(rw [hy274];with_reducible exact H)|(have H2_:=(Option.bind_some _ _).symm.trans H;rw [hy274];with_reducible exact H2_)|(have H2_:=(Option.bind_some _ _).symm.trans H;with_reducible exact H2_) | with_reducible exact H|(rw [hy274];exact H)|exact H
      have Ny274 := Aside0.mk hy274
      clear hy274
      have c28b0 := eq_true (of_decide_eq_true (by first|(with_reducible assumption) | assumption) : 0 ≤ x5_1)
      have c29b0:=eq_true (of_decide_eq_true (by first|(with_reducible assumption) | assumption) : x5_1 ≤ (l0.length : Int))
      obtain ⟨y277, hy277⟩ : ∃ y_ : List (S28), y_ = (l0.drop (x5_1 : Int).toNat) := ⟨_, rfl⟩
      replace H : (if y274.length + y277.length < 2199023255552 then ((some (y274 ++ y277 : List (S28))).bind fun y281=>(if 0 < y281.length∧y270.length + y281.length < 2199023255552 then (some (y270 ++ y281)) else (none))) else (none)) = some r:=by first|(rw [hy277];with_reducible exact H)|(have H2_:=(Option.bind_some _ _).symm.trans H;rw [hy277];with_reducible exact H2_)|(have H2_:=(Option.bind_some _ _).symm.trans H;with_reducible exact H2_) | with_reducible exact H|(rw [hy277];exact H)|exact H
      have Ny277 := Aside0.mk hy277
      clear hy277
      by_cases c30 : y274.length + y277.length < 2199023255552
      ·rw [if_pos c30] at H
       have LMc30 := Aside0.mk c30
       clear c30
       obtain ⟨y281, hy281⟩ : ∃ y_ : List (S28), y_ = (y274 ++ y277) := ⟨_, rfl⟩
       replace H : (if 0 < y281.length∧y270.length + y281.length < 2199023255552 then (some (y270 ++ y281)) else (none)) = some r:=by first|(rw [hy281];with_reducible exact H)|(have H2_:=(Option.bind_some _ _).symm.trans H;rw [hy281];with_reducible exact H2_)|(have H2_:=(Option.bind_some _ _).symm.trans H;with_reducible exact H2_) | with_reducible exact H|(rw [hy281];exact H)|exact H
       have Ny281 := Aside0.mk hy281
       clear hy281
       by_cases c31 : 0 < y281.length ∧ y270.length + y281.length < 2199023255552
       ·rw [if_pos c31] at H
        have LMc31 := Aside0.mk c31
        clear c31
        obtain ⟨y284, hy284⟩ : ∃ y_ : List (S28), y_ = (y270 ++ y281) := ⟨_, rfl⟩
        replace H : (some y284) = some r:=by first|(rw [hy284];with_reducible exact H)|(have H2_:=(Option.bind_some _ _).symm.trans H;rw [hy284];with_reducible exact H2_)|(have H2_:=(Option.bind_some _ _).symm.trans H;with_reducible exact H2_) | with_reducible exact H|(rw [hy284];exact H)|exact H
        have Ny284 := Aside0.mk hy284
        clear hy284
        obtain rfl := Option.some.inj H
        simp only [Option.some.injEq, Prod.mk.injEq] at H
        obtain ⟨rfl⟩ := H
        try go_wp2
        have n0_ := Aside0.mk (blk_drew BK250.out)
        have n1_ := Aside0.mk (below_drew1 HB.out)
        clear BK250
        clear HB
        have BK250 := n0_
        have HB := n1_
        clear n0_ n1_
        refine start_ (n:=13) (S:=fun w'=>True) (ds:=[]) #[false,false,false,false,false,false,false,false,false,false,false,false,false] (by kernel_rfl) rfl rfl trivial (fun hHeld=>?_);refine with_tabW incipitref12_Into.tab2 incipitref12_Into.bits2 (fun HT_ HW_=>?_)
        generalize wr.drew = w32 at BK250 HB hHeld ⊢
        refine pure_ (i:=0) (N:=some 6) (v:=?_) (a':=?_) #[true,false,false,false,false,false,false,false,false,false,false,false,false] rfl rfl (any_of HT_.out (by kernel_rfl)) (fun _ _ _ h=>h) (Or.inl ⟨by rfl,?_⟩) ?_ ?_
        rotate_left
        ·intro w'
         go_simp
         with_reducible rfl
        rotate_left
        ·simp only [Act.put, List.setIfInBounds_toArray, List.set_cons_zero, List.set_cons_succ, i64_w, i32_w]
         rfl
        refine pure_ (i:=1) (N:=some 7) (v:=?_) (a':=?_) #[true,true,false,false,false,false,false,false,false,false,false,false,false] rfl rfl (any_of HT_.out (by kernel_rfl)) (fun _ _ _ h=>h) (Or.inl ⟨by rfl,?_⟩) ?_ ?_
        rotate_left
        ·intro w'
         go_simp
         with_reducible rfl
        rotate_left
        ·simp only [Act.put, List.setIfInBounds_toArray, List.set_cons_zero, List.set_cons_succ, i64_w, i32_w]
         rfl
        refine pure_ (i:=2) (N:=some 8) (v:=?_) (a':=?_) #[true,true,true,false,false,false,false,false,false,false,false,false,false] rfl rfl (any_of HT_.out (by kernel_rfl)) (fun _ _ _ h=>h) (Or.inl ⟨by rfl,?_⟩) ?_ ?_
        rotate_left
        ·intro w'
         go_simp
         with_reducible rfl
        rotate_left
        ·simp only [Act.put, List.setIfInBounds_toArray, List.set_cons_zero, List.set_cons_succ, i64_w, i32_w]
         rfl
        refine pure_ (i:=3) (N:=some 9) (v:=?_) (a':=?_) #[true,true,true,true,false,false,false,false,false,false,false,false,false] rfl rfl (any_of HT_.out (by kernel_rfl)) (fun _ _ _ h=>h) (Or.inl ⟨by rfl,?_⟩) ?_ ?_
        rotate_left
        ·intro w'
         go_simp
         with_reducible rfl
        rotate_left
        ·simp only [Act.put, List.setIfInBounds_toArray, List.set_cons_zero, List.set_cons_succ, i64_w, i32_w]
         rfl
        refine pure_ (i:=4) (N:=some 10) (v:=?_) (a':=?_) #[true,true,true,true,true,false,false,false,false,false,false,false,false] rfl rfl (any_of HT_.out (by kernel_rfl)) (fun _ _ _ h=>h) (Or.inl ⟨by rfl,?_⟩) ?_ ?_
        rotate_left
        ·intro w'
         go_simp
         with_reducible rfl
        rotate_left
        ·simp only [Act.put, List.setIfInBounds_toArray, List.set_cons_zero, List.set_cons_succ, i64_w, i32_w]
         rfl
        refine pure_ (i:=5) (N:=some 11) (v:=undef) (a':=?_) #[true,true,true,true,true,true,false,false,false,false,false,false,false] rfl rfl (any_of HT_.out (by kernel_rfl)) (fun _ _ _ h=>h) (Or.inr ⟨by rfl,rfl⟩) ?_ ?_
        rotate_left
        ·simp only [Act.put, List.setIfInBounds_toArray, List.set_cons_zero, List.set_cons_succ, i64_w, i32_w]
         rfl
        refine pure_ (i:=6) (N:=some 12) (v:=undef) (a':=?_) #[true,true,true,true,true,true,true,false,false,false,false,false,false] rfl rfl (any_of HT_.out (by kernel_rfl)) (fun _ _ _ h=>h) (Or.inr ⟨by rfl,rfl⟩) ?_ ?_
        rotate_left
        ·simp only [Act.put, List.setIfInBounds_toArray, List.set_cons_zero, List.set_cons_succ, i64_w, i32_w]
         rfl
        refine pure_ (i:=7) (N:=some 13) (v:=undef) (a':=?_) #[true,true,true,true,true,true,true,true,false,false,false,false,false] rfl rfl (any_of HT_.out (by kernel_rfl)) (fun _ _ _ h=>h) (Or.inr ⟨by rfl,rfl⟩) ?_ ?_
        rotate_left
        ·simp only [Act.put, List.setIfInBounds_toArray, List.set_cons_zero, List.set_cons_succ, i64_w, i32_w]
         rfl
        refine pure_ (i:=8) (N:=some 14) (v:=undef) (a':=?_) #[true,true,true,true,true,true,true,true,true,false,false,false,false] rfl rfl (any_of HT_.out (by kernel_rfl)) (fun _ _ _ h=>h) (Or.inr ⟨by rfl,rfl⟩) ?_ ?_
        rotate_left
        ·simp only [Act.put, List.setIfInBounds_toArray, List.set_cons_zero, List.set_cons_succ, i64_w, i32_w]
         rfl
        refine pure_ (i:=9) (N:=some 15) (v:=undef) (a':=?_) #[true,true,true,true,true,true,true,true,true,true,false,false,false] rfl rfl (any_of HT_.out (by kernel_rfl)) (fun _ _ _ h=>h) (Or.inr ⟨by rfl,rfl⟩) ?_ ?_
        rotate_left
        ·simp only [Act.put, List.setIfInBounds_toArray, List.set_cons_zero, List.set_cons_succ, i64_w, i32_w]
         rfl
        refine pure_ (i:=10) (N:=some 16) (v:=undef) (a':=?_) #[true,true,true,true,true,true,true,true,true,true,true,false,false] rfl rfl (any_of HT_.out (by kernel_rfl)) (fun _ _ _ h=>h) (Or.inr ⟨by rfl,rfl⟩) ?_ ?_
        rotate_left
        ·simp only [Act.put, List.setIfInBounds_toArray, List.set_cons_zero, List.set_cons_succ, i64_w, i32_w]
         rfl
        refine pure_ (i:=11) (N:=some 17) (v:=undef) (a':=?_) #[true,true,true,true,true,true,true,true,true,true,true,true,false] rfl rfl (any_of HT_.out (by kernel_rfl)) (fun _ _ _ h=>h) (Or.inr ⟨by rfl,rfl⟩) ?_ ?_
        rotate_left
        ·simp only [Act.put, List.setIfInBounds_toArray, List.set_cons_zero, List.set_cons_succ, i64_w, i32_w]
         rfl
        refine pure_ (i:=12) (N:=some 18) (v:=?_) (a':=?_) #[true,true,true,true,true,true,true,true,true,true,true,true,true] rfl rfl (any_of HT_.out (by kernel_rfl)) (fun _ _ _ h=>h) (Or.inl ⟨by rfl,?_⟩) ?_ ?_
        rotate_left
        ·intro w'
         go_simp
         with_reducible rfl
        rotate_left
        ·simp only [Act.put, List.setIfInBounds_toArray, List.set_cons_zero, List.set_cons_succ, i64_w, i32_w]
         rfl
        refine done_ (done_of HT_.out (by kernel_rfl)) ?_
        try go_wp2
        have n0_ := Aside0.mk (blk_drew BK250.out)
        have n1_ := Aside0.mk (below_drew1 HB.out)
        clear BK250
        clear HB
        have BK250 := n0_
        have HB := n1_
        clear n0_ n1_
        have q34 : (x5_1 : Int) ≤ ((l0.length : Int) : Int):=of_decide_eq_true (by first|(with_reducible assumption) | assumption)
        obtain ⟨i034, hi034, _, hsz34, _⟩ := info_parts info28
        have hroom34 : l0.length ≤ c0 := HC0.out
        have hC34 : Kd.C k28 _ A0 l0.length l0 := HR0.out
        have hcut34:=cut_tomax (P:=Try.prog) 24 28 .i64 .i64 Try.underlying24 hi034 A0 l0.length c0 x5_1 (of_decide_eq_true (by first|(with_reducible assumption) | assumption)) q34 hroom34
        have hr34 := Kd.C_take (m := (x5_1 : Int).toNat) hC34 (by omega)
        have hy34 : y270.length = (x5_1 : Int).toNat := (by rw [Ny270.out, List.length_take]; omega)
        rw [← Ny270.out] at hr34
        rw [← hy34] at hcut34
        have HR273 := Aside0.mk hr34
        have HC273 := Aside0.mk (show y270.length ≤ y270.length from by omega)
        clear hr34 hC34 hroom34 hi034 hsz34
        have KY34 := Aside0.mk hy34
        clear hy34
        replace q34 := eq_true q34
        have q35 : (x5_1 : Int) ≤ ((l0.length : Int) : Int):=of_decide_eq_true (by first|(with_reducible assumption) | assumption)
        obtain ⟨i035, hi035, _, hsz35, _⟩ := info_parts info28
        have hroom35 : l0.length ≤ c0 := HC0.out
        have hC35 : Kd.C k28 _ A0 l0.length l0 := HR0.out
        have q035 : (0 : Int) ≤ (x5_1 : Int) := of_decide_eq_true (by first|(with_reducible assumption) | assumption)
        have hcut35 := cut_from (P := Try.prog) 24 28 .i64 Try.underlying24 hi035 5 hsz35 A0 l0.length c0 x5_1 q035 q35
        have hr35 := Kd.C_drop (m := (x5_1 : Int).toNat) (c := c0) hC35 (by omega) hroom35
        obtain ⟨A35,hA35⟩ : ∃ A1,A1 = (if c0 = (x5_1 : Int).toNat then A0 else (A0 : Option Addr).map (·.add ((x5_1 : Int).toNat * 5))):=⟨_,rfl⟩
        obtain ⟨c35, hc35⟩ : ∃ c1, c1 = c0 - (x5_1 : Int).toNat := ⟨_, rfl⟩
        have hy35 : y277.length = l0.length - (x5_1 : Int).toNat := (by rw [Ny277.out, List.length_drop] <;> omega)
        rw [show (l0).drop (x5_1 : Int).toNat = y277 from Ny277.out.symm] at hr35
        replace hr35 : Kd.C k28 _ A35 y277.length y277 := (by rw [hA35]; exact hr35)
        rw [← hy35, ← hA35, ← hc35] at hcut35
        have HR280 := Aside0.mk hr35
        have HC280 := Aside0.mk (show y277.length ≤ c35 from by rw [hy35, hc35]; exact Nat.sub_le_sub_right hroom35 _)
        clear hr35 hC35 hroom35 hi035 hsz35 hc35
        have KY35 := Aside0.mk hy35
        have KA35 := Aside0.mk hA35
        clear hy35 hA35
        replace q35 := eq_true q35
        refine start_ (n:=12) (S:=fun w'=>w'.cell? ⟨gb250,0,none⟩ = some (.string a1_0)∧w'.cell? ⟨gb250,1,none⟩ = some (.int .i64 a1_1)∧w'.cell? ⟨gb250,2,none⟩ = some (.int .i64 a1_2)∧w'.cell? ⟨gb250,3,none⟩ = some (.string a1_3)∧w'.cell? ⟨gb250,4,none⟩ = some (.string a1_4)) (ds:=[]) #[false,false,false,false,false,false,false,false,false,false,false,false] (by kernel_rfl) rfl rfl ⟨(blk_cell BK250.out 0).trans rfl,(blk_cell BK250.out 1).trans rfl,(blk_cell BK250.out 2).trans rfl,(blk_cell BK250.out 3).trans rfl,(blk_cell BK250.out 4).trans rfl⟩ (fun hHeld=>?_);refine with_tabW incipitref12_Into.tab4 incipitref12_Into.bits4 (fun HT_ HW_=>?_)
        generalize w32.drew = w33 at BK250 HB HR273 HR280 hHeld ⊢
        refine pure_ (i:=0) (N:=some 21) (v:=?_) (a':=?_) #[true,false,false,false,false,false,false,false,false,false,false,false] rfl rfl (any_of HT_.out (by kernel_rfl)) (fun _ _ _ h=>h) (Or.inl ⟨by rfl,?_⟩) ?_ ?_
        rotate_left
        ·intro w'
         go_simp
         with_reducible rfl
        rotate_left
        ·simp only [Act.put, List.setIfInBounds_toArray, List.set_cons_zero, List.set_cons_succ, i64_w, i32_w]
         rfl
        refine pure_ (i:=1) (N:=some 22) (v:=?_) (a':=?_) #[true,true,false,false,false,false,false,false,false,false,false,false] rfl rfl (any_of HT_.out (by kernel_rfl)) (fun _ _ _ h=>h) (Or.inl ⟨by rfl,?_⟩) ?_ ?_
        rotate_left
        ·intro w'
         go_simp
         with_reducible rfl
        rotate_left
        ·simp only [Act.put, List.setIfInBounds_toArray, List.set_cons_zero, List.set_cons_succ, i64_w, i32_w]
         rfl
        refine pure_ (i:=2) (N:=some 23) (v:=?_) (a':=?_) #[true,true,true,false,false,false,false,false,false,false,false,false] rfl rfl (any_of HT_.out (by kernel_rfl)) (fun _ _ _ h=>h) (Or.inl ⟨by rfl,?_⟩) ?_ ?_
        rotate_left
        ·intro w'
         go_simp
         with_reducible rfl
        rotate_left
        ·simp only [Act.put, List.setIfInBounds_toArray, List.set_cons_zero, List.set_cons_succ, i64_w, i32_w]
         rfl
        refine pure_ (i:=3) (N:=some 24) (v:=?_) (a':=?_) #[true,true,true,true,false,false,false,false,false,false,false,false] rfl rfl (any_of HT_.out (by kernel_rfl)) (fun _ _ _ h=>h) (Or.inl ⟨by rfl,?_⟩) ?_ ?_
        rotate_left
        ·intro w'
         go_simp
         with_reducible rfl
        rotate_left
        ·simp only [Act.put, List.setIfInBounds_toArray, List.set_cons_zero, List.set_cons_succ, i64_w, i32_w]
         rfl
        refine pure_ (i:=6) (N:=some 27) (v:=?_) (a':=?_) #[true,true,true,true,false,false,true,false,false,false,false,false] rfl rfl (any_of HT_.out (by kernel_rfl)) (fun _ _ _ h=>h) (Or.inl ⟨by rfl,?_⟩) ?_ ?_
        rotate_left
        ·intro w'
         go_simp
         with_reducible rfl
        rotate_left
        ·simp only [Act.put, List.setIfInBounds_toArray, List.set_cons_zero, List.set_cons_succ, i64_w, i32_w]
         rfl
        refine pure_ (i:=7) (N:=some 28) (v:=?_) (a':=?_) #[true,true,true,true,false,false,true,true,false,false,false,false] rfl rfl (any_of HT_.out (by kernel_rfl)) (fun _ _ _ h=>h) (Or.inl ⟨by rfl,?_⟩) ?_ ?_
        rotate_left
        ·intro w'
         go_simp
         with_reducible rfl
        rotate_left
        ·simp only [Act.put, List.setIfInBounds_toArray, List.set_cons_zero, List.set_cons_succ, i64_w, i32_w]
         rfl
        refine pure_ (i:=8) (N:=some 29) (v:=?_) (a':=?_) #[true,true,true,true,false,false,true,true,true,false,false,false] rfl rfl (any_of HT_.out (by kernel_rfl)) (fun _ _ _ h=>h) (Or.inl ⟨by rfl,?_⟩) ?_ ?_
        rotate_left
        ·intro w'
         go_simp
         with_reducible rfl
        rotate_left
        ·simp only [Act.put, List.setIfInBounds_toArray, List.set_cons_zero, List.set_cons_succ, i64_w, i32_w]
         rfl
        refine take_ (i:=4) (N:=some 25) (v:=?_) (a':=?_) #[true,true,true,true,true,false,true,true,true,false,false,false] rfl rfl (take_ofW HT_.out HW_.out (by kernel_rfl)) (fun _ _ _ h=>h) (Or.inl ⟨by rfl,?_⟩) hHeld ?_ ?_
        rotate_left
        ·rintro w' ⟨s0, s1, s2, s3, s4⟩
         go_simp
         with_reducible rfl
        rotate_left
        ·simp only [Act.put, List.setIfInBounds_toArray, List.set_cons_zero, List.set_cons_succ, i64_w, i32_w]
         rfl
        refine one_ (i:=5) (N:=some 26) #[true,true,true,true,true,true,true,true,true,false,false,false] rfl rfl (one_of HT_.out (by kernel_rfl)) (by decide) (fun K hK=>?_)
        refine Kd.R_lit_step k28 _ 28 ?hg (N:=26) ?hd (xs:=([(⟨a1_0,a1_1,a1_2,a1_3,a1_4⟩ : S28)] : List (S28))) (inner:=[.string a1_0,.int .i64 a1_1,.int .i64 a1_2,.string a1_3,.string a1_4]) (ok:=fun _=>True) (okp:=fun _=>True) ?hr ?hp (fun _ hk=>hk) trivial (Below.refl _ _) (Nat.le_refl _) (by simp) ?_;(case hd=>rfl);(case hg=>rfl);(case hr=>first|(go_simp;done)|(go_simp;rfl));(case hp=>exact (Reps.c5 (show Kd.M k28 _ _ _ (⟨a1_0,a1_1,a1_2,a1_3,a1_4⟩ : S28) [.string a1_0,.int .i64 a1_1,.int .i64 a1_2,.string a1_3,.string a1_4] from (k28_mkM _ _ _ (⟨a1_0,a1_1,a1_2,a1_3,a1_4⟩ : S28) )) (Reps.none _ _)))
        intro v275 w36 ho37 hb hg_ hnew_
        clear hg_ hnew_
        (first | rw [← Ny274.out] at ho37|(simp only [Int.reduceToNat] at ho37; rw [← Ny274.out] at ho37))
        have n0_:=Aside0.mk (Kd.R_lower (Kd.R_newB ho37 (g:=gb250) (o:=.cells #[.string a1_0,.int .i64 a1_1,.int .i64 a1_2,.string a1_3,.string a1_4] 28 (0,0)) (by (with_reducible repeat (first|refine blk_drewN ?_ _|refine blk_drew ?_|refine blk_alloc ?_ _));exact BK250.out)) (below_size (by repeat (first|(with_reducible first|exact HB.out|apply below_alloc|apply pw_below_drewN|apply below_drew1|refine below_set ?_ GE250.out)|exact HB.out))))
        have n1_:=Aside0.mk (blk_below (g:=gb250) (o:=.cells #[.string a1_0,.int .i64 a1_1,.int .i64 a1_2,.string a1_3,.string a1_4] 28 (0,0)) (by (with_reducible repeat (first|refine blk_drewN ?_ _|refine blk_drew ?_|refine blk_alloc ?_ _));exact BK250.out) hb)
        have n2_:=Aside0.mk (below_step (by repeat (first|(with_reducible first|exact HB.out|apply below_alloc|apply pw_below_drewN|apply below_drew1|refine below_set ?_ GE250.out)|exact HB.out)) hb)
        clear BK250
        clear HB
        have HO276 := n0_
        have BK250 := n1_
        have HB := n2_
        clear n0_ n1_ n2_
        clear hb ho37
        refine hK.out _ _ ⟨(blk_cell BK250.out 0).trans rfl,(blk_cell BK250.out 1).trans rfl,(blk_cell BK250.out 2).trans rfl,(blk_cell BK250.out 3).trans rfl,(blk_cell BK250.out 4).trans rfl⟩ (fun hHeld=>?_)
        clear hK K
        refine norm_ (a' := ?_) ?_ ?_
        rotate_left
        ·show Act.put _ (some 26) _ = _
         simp only [Act.put, List.setIfInBounds_toArray, List.set_cons_zero, List.set_cons_succ, i64_w, i32_w]
         rfl
        refine one_ (i:=9) (N:=some 30) #[true,true,true,true,true,true,true,true,true,true,false,false] rfl rfl (one_of HT_.out (by kernel_rfl)) (by decide) (fun K hK=>?_)
        refine Kd.R_append_rows_step k28 (w0:=w) w.heap.size (by rfl) (.tmp 26) (.tmp 29) 24 28 (.agg #[(.string ⟨#[]⟩),(.int .i64 0),(.int .i64 0),(.string ⟨#[]⟩),(.string ⟨#[]⟩)]) 64 rfl Try.underlying24 info28 rfl (by decide) (by omega) v275 y274 y277 _ _ _ (fun k_=>k_ ≠ gb250) (fun _=>False) rfl rfl ?aO ?aR (fun _ _ h=>h) (fun _ h=>h.elim) ?aF ?aB ?aS ?aL ?_
        (case aR=>repeat (first|exact (Kd.C_below HR280.out HB.out)|(with_reducible refine Kd.C_alloc ?_ _)|(with_reducible refine Kd.C_drewN ?_ _)|(with_reducible refine Kd.C_drew ?_)))
        (case aB=>exact (by repeat (first|(with_reducible first|exact HB.out|apply below_alloc|apply pw_below_drewN|apply below_drew1|refine below_set ?_ GE250.out)|exact HB.out)))
        (case aF=>exact (fun k_ hk=>Kd.freshB (g:=gb250) (o:=.cells #[.string a1_0,.int .i64 a1_1,.int .i64 a1_2,.string a1_3,.string a1_4] 28 (0,0)) (by (with_reducible repeat (first|refine blk_drewN ?_ _|refine blk_drew ?_|refine blk_alloc ?_ _));exact BK250.out) k_ hk))
        (case aO=>exact (by (with_reducible repeat (first|apply Kd.R_alloc|apply Kd.R_drewN|apply Kd.R_drew));exact Kd.R_mono HO276.out (fun _ hk=>hk.2)))
        (case aS=>exact (below_size (by repeat (first|(with_reducible first|exact HB.out|apply below_alloc|apply pw_below_drewN|apply below_drew1|refine below_set ?_ GE250.out)|exact HB.out))))
        (case aL => have := LMc30.out; omega)
        intro v282 w38 ho hb hg hat
        rw [← Ny281.out] at ho
        have n0_:=Aside0.mk (blk_grown (g:=gb250) (o:=.cells #[.string a1_0,.int .i64 a1_1,.int .i64 a1_2,.string a1_3,.string a1_4] 28 (0,0)) (by (with_reducible repeat (first|refine blk_drewN ?_ _|refine blk_drew ?_|refine blk_alloc ?_ _));exact BK250.out) hg (Kd.R_away HO276.out (fun _ hk=>hk.2)))
        have n1_ := Aside0.mk (hb)
        have n2_ := Aside0.mk (ho)
        clear BK250
        clear HB
        clear HO276
        have BK250 := n0_
        have HB := n1_
        have HO283 := n2_
        clear n0_ n1_ n2_
        clear ho hb hg hat
        obtain ⟨Ao40, co40, eo40⟩ := Kd.R_slice HO283.out
        (first | subst eo40|(injection eo40 with f1_ f2_ f3_;have f4_:=f1_.symm;have f5_:=f3_.symm;clear f1_ f2_ f3_;subst f4_;subst f5_))
        refine hK.out _ _ ⟨(blk_cell BK250.out 0).trans rfl,(blk_cell BK250.out 1).trans rfl,(blk_cell BK250.out 2).trans rfl,(blk_cell BK250.out 3).trans rfl,(blk_cell BK250.out 4).trans rfl⟩ (fun hHeld=>?_)
        clear hK K
        refine norm_ (a' := ?_) ?_ ?_
        rotate_left
        ·show Act.put _ (some 30) _ = _
         simp only [Act.put, List.setIfInBounds_toArray, List.set_cons_zero, List.set_cons_succ, i64_w, i32_w]
         rfl
        refine one_ (i:=10) (N:=some 31) #[true,true,true,true,true,true,true,true,true,true,true,false] rfl rfl (one_of HT_.out (by kernel_rfl)) (by decide) (fun K hK=>?_)
        refine Kd_append_cut_step k28 (w0:=w) w.heap.size (by rfl) (.tmp 24) (.tmp 30) 24 28 (.agg #[(.string ⟨#[]⟩),(.int .i64 0),(.int .i64 0),(.string ⟨#[]⟩),(.string ⟨#[]⟩)]) 64 rfl Try.underlying24 info28 rfl (by decide) (by omega) A0 y270 y281 _ _ _ (fun k_=>some k_ ≠ (.slice Ao40 y281.length co40 : Value).ownBlock∧k_ ≠ gb250) rfl rfl ?aO ?aR (fun _ _ _ h=>h) (fun _ _ h=>h) ?aF ?aB ?aS ?aL ?_
        (case aR=>repeat (first|exact (Kd.R_reads' HO283.out).2.2|(with_reducible refine Kd.C_alloc ?_ _)|(with_reducible refine Kd.C_drewN ?_ _)|(with_reducible refine Kd.C_drew ?_)))
        (case aB=>exact (by repeat (first|(with_reducible first|exact HB.out|apply below_alloc|apply pw_below_drewN|apply below_drew1|refine below_set ?_ GE250.out)|exact HB.out)))
        (case aF=>exact (fun k_ hk=>⟨Kd.fresh' (Kd.R_lt (by (with_reducible repeat (first|apply Kd.R_alloc|apply Kd.R_drewN|apply Kd.R_drew));exact HO283.out)) k_ hk,Kd.freshB (g:=gb250) (o:=.cells #[.string a1_0,.int .i64 a1_1,.int .i64 a1_2,.string a1_3,.string a1_4] 28 (0,0)) (by (with_reducible repeat (first|refine blk_drewN ?_ _|refine blk_drew ?_|refine blk_alloc ?_ _));exact BK250.out) k_ hk⟩))
        (case aO=>exact (by (repeat (first|exact (Kd.C_below HR273.out HB.out)|(with_reducible refine Kd.C_alloc ?_ _)|(with_reducible refine Kd.C_drewN ?_ _)|(with_reducible refine Kd.C_drew ?_)))))
        (case aS=>exact (below_size (by repeat (first|(with_reducible first|exact HB.out|apply below_alloc|apply pw_below_drewN|apply below_drew1|refine below_set ?_ GE250.out)|exact HB.out))))
        (case aL => have := LMc31.out; omega)
        intro v285 w39 ho hb hg hat
        rw [← Ny284.out] at ho
        have n0_:=Aside0.mk (blk_grown (g:=gb250) (o:=.cells #[.string a1_0,.int .i64 a1_1,.int .i64 a1_2,.string a1_3,.string a1_4] 28 (0,0)) (by (with_reducible repeat (first|refine blk_drewN ?_ _|refine blk_drew ?_|refine blk_alloc ?_ _));exact BK250.out) hg (by simp [Value.ownBlock]))
        have n1_:=Aside0.mk (Kd.R_after (Kd.R_apart_nil (by (with_reducible repeat (first|apply Kd.R_alloc|apply Kd.R_drewN|apply Kd.R_drew));exact HO283.out)) hg hat)
        have n2_ := Aside0.mk (hb)
        have n3_ := Aside0.mk (ho)
        clear BK250
        clear HO283
        clear HB
        have BK250 := n0_
        have HO283 := n1_
        have HB := n2_
        have HO286 := n3_
        clear n0_ n1_ n2_ n3_
        clear ho hb hg hat
        refine hK.out _ _ ⟨(blk_cell BK250.out 0).trans rfl,(blk_cell BK250.out 1).trans rfl,(blk_cell BK250.out 2).trans rfl,(blk_cell BK250.out 3).trans rfl,(blk_cell BK250.out 4).trans rfl⟩ (fun hHeld=>?_)
        clear hK K
        refine norm_ (a' := ?_) ?_ ?_
        rotate_left
        ·show Act.put _ (some 31) _ = _
         simp only [Act.put, List.setIfInBounds_toArray, List.set_cons_zero, List.set_cons_succ, i64_w, i32_w]
         rfl
        refine pure_ (i:=11) (N:=some 4) (v:=?_) (a':=?_) #[true,true,true,true,true,true,true,true,true,true,true,true] rfl rfl (any_of HT_.out (by kernel_rfl)) (fun _ _ _ h=>h) (Or.inl ⟨by rfl,?_⟩) ?_ ?_
        rotate_left
        ·intro w'
         go_simp
         with_reducible rfl
        rotate_left
        ·simp only [Act.put, List.setIfInBounds_toArray, List.set_cons_zero, List.set_cons_succ, i64_w, i32_w]
         rfl
        refine done_ (done_of HT_.out (by kernel_rfl)) ?_
        try go_wp2
        go_ret
        exact ⟨_,by first | rfl|(simp [errW_none,errW_some] <;> rfl)|(simp [*,errW_none,errW_some] <;> rfl),by (with_reducible repeat (first|apply Kd.R_alloc|apply Kd.R_drewN|apply Kd.R_drew));exact Kd.R_mono HO286.out (fun _ hk=>trivial),by repeat (first|(with_reducible first|exact HB.out|apply below_alloc|apply pw_below_drewN|apply below_drew1|refine below_set ?_ GE250.out)|exact HB.out)⟩
       ·rw [if_neg c31] at H
        exact absurd H (by simp)
      ·rw [if_neg c30] at H
       exact absurd H (by simp)
     ·rw [if_neg c27] at H
      exact absurd H (by simp)
    ·rw [if_neg c26] at H
     exact absurd H (by simp)

end Go.Proofs.Ytenmljkddhonmaa.MTbl
