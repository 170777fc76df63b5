-- Written by a program of this session for this claim (out of the translation's print); Lean checks it.
import Derived.Test.YthpeieieibbbgaaMUcdx0
import Derived.Test.YthpeieieibbbgaaMUcdx1
import Derived.Test.YthpeieieibbbgaaMUcdx2
import Derived.Test.YthpeieieibbbgaaMUcdx3
namespace Go.Proofs.Ythpeieieibbbgaa.MUcd
open Go.RowKit Go.Proofs.YthpeieieibbbgaaW.PrintWords Go.Proofs.YthpeieieibbbgaaW.PrintLast Go.Proofs.YthpeieieibbbgaaW.PrintMore
attribute [local go_sem] max2_int min2_int max_two min_two max_three min_three max_four min_four   -- for this text's walks alone
set_option linter.unusedVariables false
set_option linter.unusedSimpArgs false

/-! ### incipitlaw2_UcdBlock: function 14 -/
mutual
def incipitlaw2_UcdBlock.j0 : Nat → Int → Bool → Option (Bool)
  | 0, _, _ => none
  | k + 1, x0, x13 => if x13 = true then (some true) else (incipitlaw2_UcdBlock.l0 k x0 x0)
def incipitlaw2_UcdBlock.l0 : Nat → Int → Int → Option (Bool)
  | 0, _, _ => none
  | k + 1, x0, x4 => if x4 < (wrap64 (x0 + 32)) then ((ucd_Class.f k x4).bind fun t186 => ((incipitref1_Class.f k x4).bind fun t187 => (if t186 = t187 then ((ucd_Map.f k x4).bind fun t188 => ((incipitref1_Map.f k x4).bind fun t191 => ((incipitlaw1_Ints.f k t188 t191).bind fun t194 => (if t194 = true then (incipitlaw2_UcdBlock.l0 k x0 (wrap64 (x4 + 1))) else (some false))))) else (some false)))) else (some true)
end
def incipitlaw2_UcdBlock.f (k : Nat) (a0 : Int) : Option (Bool) := (incipitlaw2_begun.f k).bind fun t185 => (if t185 = true then (if a0 < 0 then (incipitlaw2_UcdBlock.j0 k a0 true) else (incipitlaw2_UcdBlock.j0 k a0 (decide (a0 > 1114111)))) else (some false))
theorem incipitlaw2_UcdBlock.mono_l : ∀ k, (∀ y0 y1, LeO (incipitlaw2_UcdBlock.j0 k y0 y1) (incipitlaw2_UcdBlock.j0 (k + 1) y0 y1)) ∧ (∀ y0 y1, LeO (incipitlaw2_UcdBlock.l0 k y0 y1) (incipitlaw2_UcdBlock.l0 (k + 1) y0 y1))
  | 0 => ⟨fun _ _ r h => by simp [incipitlaw2_UcdBlock.j0] at h, fun _ _ r h => by simp [incipitlaw2_UcdBlock.l0] at h⟩
  | k + 1 => by
    obtain ⟨ih0, ih1⟩ := incipitlaw2_UcdBlock.mono_l k
    refine ⟨?_, ?_⟩
    · intro y0 y1
      unfold incipitlaw2_UcdBlock.j0
      repeat' first
      | (with_reducible exact ih0 _ _)
      | (with_reducible exact ih1 _ _)
      | (with_reducible exact incipitlaw1_Ints.mono _ _ _)
      | (with_reducible exact incipitlaw2_begun.mono _)
      | (with_reducible exact incipitref1_Class.mono _ _)
      | (with_reducible exact incipitref1_Map.mono _ _)
      | (with_reducible exact ucd_Class.mono _ _)
      | (with_reducible exact ucd_Map.mono _ _)
      | (with_reducible exact LeO.refl _)
      | (with_reducible exact LeO.none _)
      | (with_reducible refine LeO.ite ?_ ?_)
      | (with_reducible refine LeO.bind ?_ (fun _ => ?_))
      | exact ih0 _ _
      | exact ih1 _ _
      | exact incipitlaw1_Ints.mono _ _ _
      | exact incipitlaw2_begun.mono _
      | exact incipitref1_Class.mono _ _
      | exact incipitref1_Map.mono _ _
      | exact ucd_Class.mono _ _
      | exact ucd_Map.mono _ _
      | exact LeO.none _
      | refine LeO.ite ?_ ?_
      | refine LeO.bind ?_ (fun _ => ?_)
    · intro y0 y1
      unfold incipitlaw2_UcdBlock.l0
      repeat' first
      | (with_reducible exact ih0 _ _)
      | (with_reducible exact ih1 _ _)
      | (with_reducible exact incipitlaw1_Ints.mono _ _ _)
      | (with_reducible exact incipitlaw2_begun.mono _)
      | (with_reducible exact incipitref1_Class.mono _ _)
      | (with_reducible exact incipitref1_Map.mono _ _)
      | (with_reducible exact ucd_Class.mono _ _)
      | (with_reducible exact ucd_Map.mono _ _)
      | (with_reducible exact LeO.refl _)
      | (with_reducible exact LeO.none _)
      | (with_reducible refine LeO.ite ?_ ?_)
      | (with_reducible refine LeO.bind ?_ (fun _ => ?_))
      | exact ih0 _ _
      | exact ih1 _ _
      | exact incipitlaw1_Ints.mono _ _ _
      | exact incipitlaw2_begun.mono _
      | exact incipitref1_Class.mono _ _
      | exact incipitref1_Map.mono _ _
      | exact ucd_Class.mono _ _
      | exact ucd_Map.mono _ _
      | exact LeO.none _
      | refine LeO.ite ?_ ?_
      | refine LeO.bind ?_ (fun _ => ?_)
theorem incipitlaw2_UcdBlock.mono : ∀ a0 k, LeO (incipitlaw2_UcdBlock.f k a0) (incipitlaw2_UcdBlock.f (k + 1) a0) := by
  intro a0 k
  obtain ⟨ih0, ih1⟩ := incipitlaw2_UcdBlock.mono_l k
  unfold incipitlaw2_UcdBlock.f
  repeat' first
      | (with_reducible exact ih0 _ _)
      | (with_reducible exact ih1 _ _)
      | (with_reducible exact incipitlaw1_Ints.mono _ _ _)
      | (with_reducible exact incipitlaw2_begun.mono _)
      | (with_reducible exact incipitref1_Class.mono _ _)
      | (with_reducible exact incipitref1_Map.mono _ _)
      | (with_reducible exact ucd_Class.mono _ _)
      | (with_reducible exact ucd_Map.mono _ _)
      | (with_reducible exact LeO.refl _)
      | (with_reducible exact LeO.none _)
      | (with_reducible refine LeO.ite ?_ ?_)
      | (with_reducible refine LeO.bind ?_ (fun _ => ?_))
      | exact ih0 _ _
      | exact ih1 _ _
      | exact incipitlaw1_Ints.mono _ _ _
      | exact incipitlaw2_begun.mono _
      | exact incipitref1_Class.mono _ _
      | exact incipitref1_Map.mono _ _
      | exact ucd_Class.mono _ _
      | exact ucd_Map.mono _ _
      | exact LeO.none _
      | refine LeO.ite ?_ ?_
      | refine LeO.bind ?_ (fun _ => ?_)
set_option maxHeartbeats 80000000 in
set_option maxRecDepth 100000 in
theorem incipitlaw2_UcdBlock.calls (k : Nat) (a0 : Int) (r : Bool) (w : World) (hrt : r = true) (h : incipitlaw2_UcdBlock.f k a0 = some r) :
    Calls Try.prog 14 #[.int .i64 a0] w fun e w' => e = .returned (.bool r) ∧ Below w.heap.size w w' := by
  have HRT := Aside0.mk hrt
  clear hrt
  have HB := Aside0.mk (Below.refl w.heap.size w)
  have H : ((incipitlaw2_begun.f k).bind fun t185 => (if t185 = true then (if a0 < 0 then (incipitlaw2_UcdBlock.j0 k a0 true) else (incipitlaw2_UcdBlock.j0 k a0 (decide (a0 > 1114111)))) else (some false))) = some r := h
  clear h
  replace H := Option.bind_eq_some_iff.mp H
  obtain ⟨t185, A20, H⟩ := H
  replace H : (if t185 = true then (if a0 < 0 then (incipitlaw2_UcdBlock.j0 k a0 true) else (incipitlaw2_UcdBlock.j0 k a0 (decide (a0 > 1114111)))) else (some false)) = some r := H
  have A2 := Aside0.mk A20
  clear A20
  by_cases c3 : t185 = true
  · subst c3
    have H1 : (if a0 < 0 then (incipitlaw2_UcdBlock.j0 k a0 true) else (incipitlaw2_UcdBlock.j0 k a0 (decide (a0 > 1114111)))) = some r := by rw [if_pos rfl] at H; exact H
    clear H
    have H := H1
    clear H1
    have HC4 := Aside0.mk H
    clear H
    go_enter Try.func14, Try.ntmps14
    go_upto_region 4 with (first | ((with_reducible refine gate_callee (f := 38) rfl ?_); refine goesL_ (some 5) rfl rfl Try.func38 (by kernel_rfl) rfl #[] rfl (by (try simp only [List.map_toArray, List.map_cons, List.map_nil]); first | done | rfl | (simp only [List.length_drop, List.length_take]; rfl)) ?_; (with_reducible refine (incipitlaw2_begun.calls k  true _ rfl A2.out).mono ?_); rintro e w5 ⟨rfl, hb⟩; refine ⟨_, rfl, ?_⟩; have n0_ := Aside0.mk (below_step (by repeat (first | (with_reducible first | exact HB.out | apply below_alloc | apply pw_below_drewN | apply below_drew1) | exact HB.out)) hb); clear HB; have HB := n0_; clear n0_; (try clear hb); (try clear hb2); (try clear hk); (try clear hi)))
    (try simp only [Act.put, List.setIfInBounds_toArray, List.set_cons_zero, List.set_cons_succ])
    go_cut [13] (fun v13 wc => ∃ (kq : Nat) (x13_3 : Bool), v13 = .bool x13_3 ∧ Aside0 (incipitlaw2_UcdBlock.j0 kq a0 x13_3 = some r) ∧ Aside0 (kq ≤ k) ∧ Aside0 (Below w.heap.size w wc))
    case first =>
      have H := HC4.out
      clear HC4
      by_cases c6 : a0 < 0
      · rw [if_pos c6] at H
        have c6b0 : decide (a0 < 0) = true := decide_eq_true c6
        clear c6
        (first | rw [c6b0] | (simp only [i64_w, i32_w]; rw [c6b0]) | skip)
        have H' := Aside0.mk H
        clear H
        go_wp2
        go_meet
        case rel => exact ⟨_, (true), (by first | rfl | (simp; done) | (simp [*]; done)), H', ⟨by first | omega | exact Nat.le_refl _⟩, ⟨by repeat (first | (with_reducible first | exact HB.out | apply below_alloc | apply pw_below_drewN | apply below_drew1) | exact HB.out)⟩⟩
      · rw [if_neg c6] at H
        have c6b0 : decide (a0 < 0) = false := decide_eq_false c6
        clear c6
        (first | rw [c6b0] | (simp only [i64_w, i32_w]; rw [c6b0]) | skip)
        have H' := Aside0.mk H
        clear H
        go_wp2
        go_meet
        case rel => exact ⟨_, (decide (a0 > 1114111)), (by first | rfl | (simp; done) | (simp [*]; done)), H', ⟨by first | omega | exact Nat.le_refl _⟩, ⟨by repeat (first | (with_reducible first | exact HB.out | apply below_alloc | apply pw_below_drewN | apply below_drew1) | exact HB.out)⟩⟩
    case rest =>
      clear HC4
      try clear c1
      try clear p2
      try clear c3
      try clear c6
      try clear c6b0
      obtain ⟨kq, x13_3, rfl, HA, HJ3, HB⟩ := hcut
      cases kq with
      | zero => exact absurd HA.out (by simp [incipitlaw2_UcdBlock.j0])
      | succ kj3 =>
        have H := HA.out
        clear HA
        simp only [incipitlaw2_UcdBlock.j0] at H
        by_cases c7 : x13_3 = true
        · subst c7
          have H1 : (some true) = some r := by rw [if_pos rfl] at H; exact H
          clear H
          have H := H1
          clear H1
          obtain rfl := Option.some.inj H
          simp only [Option.some.injEq, Prod.mk.injEq] at H
          obtain ⟨rfl⟩ := H
          go_wp2
          go_ret
          exact ⟨by first | rfl | (simp [errW_none, errW_some] <;> rfl) | (simp [*, errW_none, errW_some] <;> rfl), by repeat (first | (with_reducible first | exact HB.out | apply below_alloc | apply pw_below_drewN | apply below_drew1) | exact HB.out)⟩
        · replace c7 := Bool.eq_false_iff.mpr c7
          subst c7
          have H1 : (incipitlaw2_UcdBlock.l0 kj3 a0 a0) = some r := by rw [if_neg (show ¬ (false = true) by decide)] at H; exact H
          clear H
          have H := H1
          clear H1
          have H' := Aside0.mk H
          clear H
          go_wp2
          go_loopg [4] kj3 (fun kq v4 w' => ∃ (x4_2 : Int), v4 = .int .i64 x4_2 ∧ Aside0 (incipitlaw2_UcdBlock.l0 kq a0 x4_2 = some r) ∧ Aside0 (kq ≤ kj3) ∧ Aside0 (Below w.heap.size w w'))
          case atStart => exact ⟨(a0), (by first | rfl | (simp; done) | (simp [*]; done)), H', ⟨Nat.le_refl _⟩, ⟨by repeat (first | (with_reducible first | exact HB.out | apply below_alloc | apply pw_below_drewN | apply below_drew1) | exact HB.out)⟩⟩
          case round =>
            clear H'
            try clear c1
            try clear p2
            try clear c3
            try clear c6
            try clear c6b0
            try clear c7
            try clear p2
            obtain ⟨x4_2, rfl, HA, HK2, HB⟩ := hrel
            cases gk with
            | zero => exact absurd HA.out (by simp [incipitlaw2_UcdBlock.l0])
            | succ k2 =>
              have H := HA.out
              clear HA
              simp only [incipitlaw2_UcdBlock.l0] at H
              by_cases c8 : x4_2 < (wrap64 (a0 + 32))
              · rw [if_pos c8] at H
                have c8b0 : decide (x4_2 < (wrap64 (a0 + 32))) = true := decide_eq_true c8
                clear c8
                replace H := Option.bind_eq_some_iff.mp H
                obtain ⟨t186, A90, H⟩ := H
                replace H : ((incipitref1_Class.f k2 x4_2).bind fun t187 => (if t186 = t187 then ((ucd_Map.f k2 x4_2).bind fun t188 => ((incipitref1_Map.f k2 x4_2).bind fun t191 => ((incipitlaw1_Ints.f k2 t188 t191).bind fun t194 => (if t194 = true then (incipitlaw2_UcdBlock.l0 k2 a0 (wrap64 (x4_2 + 1))) else (some false))))) else (some false))) = some r := H
                have A9 := Aside0.mk A90
                clear A90
                replace H := Option.bind_eq_some_iff.mp H
                obtain ⟨t187, A100, H⟩ := H
                replace H : (if t186 = t187 then ((ucd_Map.f k2 x4_2).bind fun t188 => ((incipitref1_Map.f k2 x4_2).bind fun t191 => ((incipitlaw1_Ints.f k2 t188 t191).bind fun t194 => (if t194 = true then (incipitlaw2_UcdBlock.l0 k2 a0 (wrap64 (x4_2 + 1))) else (some false))))) else (some false)) = some r := H
                have A10 := Aside0.mk A100
                clear A100
                by_cases c11 : t186 = t187
                · rw [if_pos c11] at H
                  have c11b0 : (t186 == t187) = true := beq_iff_eq.mpr c11
                  have c11b1 : (t186 != t187) = false := bne_eq_false_iff_eq.mpr c11
                  clear c11
                  replace H := Option.bind_eq_some_iff.mp H
                  obtain ⟨t188, A120, H⟩ := H
                  replace H : ((incipitref1_Map.f k2 x4_2).bind fun t191 => ((incipitlaw1_Ints.f k2 t188 t191).bind fun t194 => (if t194 = true then (incipitlaw2_UcdBlock.l0 k2 a0 (wrap64 (x4_2 + 1))) else (some false)))) = some r := H
                  have A12 := Aside0.mk A120
                  clear A120
                  replace H := Option.bind_eq_some_iff.mp H
                  obtain ⟨t191, A130, H⟩ := H
                  replace H : ((incipitlaw1_Ints.f k2 t188 t191).bind fun t194 => (if t194 = true then (incipitlaw2_UcdBlock.l0 k2 a0 (wrap64 (x4_2 + 1))) else (some false))) = some r := H
                  have A13 := Aside0.mk A130
                  clear A130
                  replace H := Option.bind_eq_some_iff.mp H
                  obtain ⟨t194, A140, H⟩ := H
                  replace H : (if t194 = true then (incipitlaw2_UcdBlock.l0 k2 a0 (wrap64 (x4_2 + 1))) else (some false)) = some r := H
                  have A14 := Aside0.mk A140
                  clear A140
                  by_cases c15 : t194 = true
                  · subst c15
                    have H1 : (incipitlaw2_UcdBlock.l0 k2 a0 (wrap64 (x4_2 + 1))) = some r := by rw [if_pos rfl] at H; exact H
                    clear H
                    have H := H1
                    clear H1
                    have H' := Aside0.mk H
                    clear H
                    go_wp2_with (first | ((with_reducible refine gate_callee (f := 39) rfl ?_); refine goesL_ (some 22) rfl rfl Try.func39 (by kernel_rfl) rfl #[.int .i64 x4_2] rfl (by (try simp only [List.map_toArray, List.map_cons, List.map_nil]); first | done | rfl | (simp only [List.length_drop, List.length_take]; rfl)) ?_; (with_reducible refine (ucd_Class.calls k2 x4_2 t186 _ A9.out).mono ?_); rintro e w' ⟨rfl, ⟨nd, rfl⟩⟩; refine ⟨_, rfl, ?_⟩) | ((with_reducible refine gate_callee (f := 40) rfl ?_); refine goesL_ (some 24) rfl rfl Try.func40 (by kernel_rfl) rfl #[.int .i64 x4_2] rfl (by (try simp only [List.map_toArray, List.map_cons, List.map_nil]); first | done | rfl | (simp only [List.length_drop, List.length_take]; rfl)) ?_; (with_reducible refine (incipitref1_Class.calls k2 x4_2 t187 _ A10.out).mono ?_); rintro e w16 ⟨rfl, hb⟩; refine ⟨_, rfl, ?_⟩; have n0_ := Aside0.mk (below_step (by repeat (first | (with_reducible first | exact HB.out | apply below_alloc | apply pw_below_drewN | apply below_drew1) | exact HB.out)) hb); clear HB; have HB := n0_; clear n0_; (try clear hb); (try clear hb2); (try clear hk); (try clear hi)) | (go_at_call 42; (with_reducible refine (ucd_Map.calls k2 x4_2 t188 _ A12.out).mono ?_); rintro e w17 ⟨v189, rfl, ho0, hb⟩; have n0_ := Aside0.mk (Kd.R_lower ho0 (below_size (by repeat (first | (with_reducible first | exact HB.out | apply below_alloc | apply pw_below_drewN | apply below_drew1) | exact HB.out)))); have n1_ := Aside0.mk (below_step (by repeat (first | (with_reducible first | exact HB.out | apply below_alloc | apply pw_below_drewN | apply below_drew1) | exact HB.out)) hb); clear HB; have HO190 := n0_; have HB := n1_; clear n0_ n1_; (try clear hb); (try clear hb2); (try clear hk); (try clear hi); (try clear ho0)) | (go_at_call 43; (with_reducible refine (incipitref1_Map.calls k2 x4_2 t191 _ A13.out).mono ?_); rintro e w18 ⟨v192, rfl, ho0, hb⟩; have n0_ := Aside0.mk (Kd.R_elder' (by (with_reducible repeat (first | apply Kd.R_alloc | apply Kd.R_drewN | apply Kd.R_drew)); exact HO190.out) (Kd.R_base ho0) hb); have n1_ := Aside0.mk (Kd.R_lower (Kd.R_new' ho0 (Kd.R_lt (by (with_reducible repeat (first | apply Kd.R_alloc | apply Kd.R_drewN | apply Kd.R_drew)); exact HO190.out))) (below_size (by repeat (first | (with_reducible first | exact HB.out | apply below_alloc | apply pw_below_drewN | apply below_drew1) | exact HB.out)))); have n2_ := Aside0.mk (below_step (by repeat (first | (with_reducible first | exact HB.out | apply below_alloc | apply pw_below_drewN | apply below_drew1) | exact HB.out)) hb); clear HO190; clear HB; have HO190 := n0_; have HO193 := n1_; have HB := n2_; clear n0_ n1_ n2_; (try clear hb); (try clear hb2); (try clear hk); (try clear hi); (try clear ho0); obtain ⟨Ao19, co19, eo19⟩ := Kd.R_slice HO190.out; subst eo19; obtain ⟨Ao20, co20, eo20⟩ := Kd.R_slice HO193.out; subst eo20) | (go_at_call 41; (with_reducible refine (incipitlaw1_Ints.calls k2 _ _ t188 _ _ t191 true _ ?side1 ?side2 ?side3 ?side4 A14.out).mono ?_); (case side1 => repeat (first | exact (Kd.R_reads' HO190.out).2.2 | (with_reducible refine Kd.C_alloc ?_ _) | (with_reducible refine Kd.C_drewN ?_ _) | (with_reducible refine Kd.C_drew ?_))); (case side2 => exact (Kd.R_reads' HO190.out).2.1); (case side3 => repeat (first | exact (Kd.R_reads' HO193.out).2.2 | (with_reducible refine Kd.C_alloc ?_ _) | (with_reducible refine Kd.C_drewN ?_ _) | (with_reducible refine Kd.C_drew ?_))); (case side4 => exact (Kd.R_reads' HO193.out).2.1); rintro e w' ⟨rfl, ⟨nd, rfl⟩⟩))
                    go_roundg k2
                    case measure => have := HJ3.out; have := HK2.out; omega
                    case rel => exact ⟨(wrap64 (x4_2 + 1)), (by first | rfl | (simp; done) | (simp [*]; done)), H', ⟨by have := HJ3.out; have := HK2.out; omega⟩, ⟨by repeat (first | (with_reducible first | exact HB.out | apply below_alloc | apply pw_below_drewN | apply below_drew1) | exact HB.out)⟩⟩
                  · replace c15 := Bool.eq_false_iff.mpr c15
                    subst c15
                    have H1 : (some false) = some r := by rw [if_neg (show ¬ (false = true) by decide)] at H; exact H
                    clear H
                    have H := H1
                    clear H1
                    obtain rfl := Option.some.inj H
                    exact absurd HRT.out (by decide)
                · rw [if_neg c11] at H
                  have c11b0 : (t186 == t187) = false := beq_eq_false_iff_ne.mpr c11
                  have c11b1 : (t186 != t187) = true := bne_iff_ne.mpr c11
                  obtain rfl := Option.some.inj H
                  exact absurd HRT.out (by decide)
              · rw [if_neg c8] at H
                have c8b0 : decide (x4_2 < (wrap64 (a0 + 32))) = false := decide_eq_false c8
                clear c8
                obtain rfl := Option.some.inj H
                simp only [Option.some.injEq, Prod.mk.injEq] at H
                obtain ⟨rfl⟩ := H
                go_wp2
                go_ret
                exact ⟨by first | rfl | (simp [errW_none, errW_some] <;> rfl) | (simp [*, errW_none, errW_some] <;> rfl), by repeat (first | (with_reducible first | exact HB.out | apply below_alloc | apply pw_below_drewN | apply below_drew1) | exact HB.out)⟩
  · replace c3 := Bool.eq_false_iff.mpr c3
    subst c3
    have H1 : (some false) = some r := by rw [if_neg (show ¬ (false = true) by decide)] at H; exact H
    clear H
    have H := H1
    clear H1
    obtain rfl := Option.some.inj H
    exact absurd HRT.out (by decide)

/-- THE ONE PURE STATEMENT of incipitlaw2_UcdBlock: yours. -/
def incipitlaw2_UcdBlock.Pure : Prop := ∀ (a0 : Int), (Lit.int .i64 a0).wf = true → ∃ k, incipitlaw2_UcdBlock.f k a0 = some true
theorem incipitlaw2_UcdBlock.walk (P : incipitlaw2_UcdBlock.Pure) (a0 : Int) (w : World) (w0 : (Lit.int .i64 a0).wf = true) :
    Calls Try.prog 14 #[.int .i64 a0] w fun e w' => e = .returned (.bool true) ∧ Below w.heap.size w w' := by
  obtain ⟨k, h⟩ := P a0 w0
  refine (incipitlaw2_UcdBlock.calls k a0 true w rfl h).mono ?_
  rintro e w' ⟨rfl, hd⟩
  exact ⟨rfl, hd⟩

end Go.Proofs.Ythpeieieibbbgaa.MUcd
