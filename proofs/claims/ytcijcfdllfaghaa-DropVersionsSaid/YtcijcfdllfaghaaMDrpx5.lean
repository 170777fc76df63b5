-- Written by a program of this session for this claim (out of the translation's print); Lean checks it.
import Derived.Test.YtcijcfdllfaghaaMDrpx0
import Derived.Test.YtcijcfdllfaghaaMDrpx4
namespace Go.Proofs.Ytcijcfdllfaghaa.MDrp
open Go.RowKit Go.Proofs.YtcijcfdllfaghaaW.PrintWords Go.Proofs.YtcijcfdllfaghaaW.PrintLast Go.Proofs.YtcijcfdllfaghaaW.PrintMore
attribute [local go_sem] max2_int min2_int max_two min_two max_three min_three max_four min_four   -- for this text's walks alone
set_option linter.unusedVariables false
set_option linter.unusedSimpArgs false

/-! ### drop_Entries: function 29 -/
def drop_Entries.l0 : Nat → List Int → Bool → List (S23) → List (List (S23)) → Int → Int → Option ((List (S23)))
  | 0, _, _, _, _, _, _ => none
  | k + 1, x1, x2, x7, x11, x12, x13 => if x13 < x12 then (if 0 ≤ x13 then (if x13 < (x11.length : Int) then ((drop_versions.f (rd_L3 x11 x13) x1 x2).bind fun t189 => (if x7.length + t189.length < 2199023255552 then (drop_Entries.l0 k x1 x2 (x7 ++ t189) x11 x12 (wrap64 (x13 + 1))) else (none))) else (none)) else (none)) else (some x7)
def drop_Entries.f (k : Nat) (l0 : List (S23)) (l1 : List Int) (a2 : Bool) : Option ((List (S23))) := (drop_keys.f k l0).bind fun t185 => (drop_Entries.l0 k l1 a2 ([] : List (S23)) t185 (t185.length : Int) 0)
theorem drop_Entries.mono_l : ∀ k, (∀ y0 y1 y2 y3 y4 y5, LeO (drop_Entries.l0 k y0 y1 y2 y3 y4 y5) (drop_Entries.l0 (k + 1) y0 y1 y2 y3 y4 y5))
  | 0 => fun _ _ _ _ _ _ r h => by simp [drop_Entries.l0] at h
  | k + 1 => by
    have ih0 := drop_Entries.mono_l k
    · intro y0 y1 y2 y3 y4 y5
      unfold drop_Entries.l0
      repeat' first
      | (with_reducible exact ih0 _ _ _ _ _ _)
      | (with_reducible exact drop_keys.mono _ _)
      | (with_reducible exact LeO.refl _)
      | (with_reducible exact LeO.none _)
      | (with_reducible refine LeO.ite ?_ ?_)
      | (with_reducible refine LeO.bind ?_ (fun _ => ?_))
      | exact ih0 _ _ _ _ _ _
      | exact drop_keys.mono _ _
      | exact LeO.none _
      | refine LeO.ite ?_ ?_
      | refine LeO.bind ?_ (fun _ => ?_)
theorem drop_Entries.mono : ∀ a0 a1 a2 k, LeO (drop_Entries.f k a0 a1 a2) (drop_Entries.f (k + 1) a0 a1 a2) := by
  intro a0 a1 a2 k
  have ih0 := drop_Entries.mono_l k
  unfold drop_Entries.f
  repeat' first
      | (with_reducible exact ih0 _ _ _ _ _ _)
      | (with_reducible exact drop_keys.mono _ _)
      | (with_reducible exact LeO.refl _)
      | (with_reducible exact LeO.none _)
      | (with_reducible refine LeO.ite ?_ ?_)
      | (with_reducible refine LeO.bind ?_ (fun _ => ?_))
      | exact ih0 _ _ _ _ _ _
      | exact drop_keys.mono _ _
      | exact LeO.none _
      | refine LeO.ite ?_ ?_
      | refine LeO.bind ?_ (fun _ => ?_)
set_option maxHeartbeats 80000000 in
set_option maxRecDepth 100000 in
theorem drop_Entries.calls (k : Nat) (A0 : Option Addr) (c0 : Nat) (l0 : List (S23)) (A1 : Option Addr) (c1 : Nat) (l1 : List Int) (a2 : Bool) (r : List (S23)) (w : World) (hr0 : Kd.C k23 w A0 l0.length l0) (hc0 : l0.length ≤ c0) (hr1 : Kd.C (Kd.int .i64) w A1 l1.length l1) (hc1 : l1.length ≤ c1) (h : drop_Entries.f k l0 l1 a2 = some r) :
    Calls Try.prog 29 #[.slice A0 l0.length c0, .slice A1 l1.length c1, .bool a2] w fun e w' => ∃ v0_ : Value, e = .returned (v0_) ∧ Kd.R k23 23 w' w.heap.size (fun _ => True) v0_ r ∧ Below w.heap.size w w' := by
  have HR0 := Aside0.mk hr0
  have HC0 := Aside0.mk hc0
  clear hr0 hc0
  have HR1 := Aside0.mk hr1
  have HC1 := Aside0.mk hc1
  clear hr1 hc1
  have HB := Aside0.mk (Below.refl w.heap.size w)
  have H : ((drop_keys.f k l0).bind fun t185 => (drop_Entries.l0 k l1 a2 ([] : List (S23)) t185 (t185.length : Int) 0)) = some r := h
  clear h
  replace H := Option.bind_eq_some_iff.mp H
  obtain ⟨t185, A40, H⟩ := H
  replace H : (drop_Entries.l0 k l1 a2 ([] : List (S23)) t185 (t185.length : Int) 0) = some r := H
  have A4 := Aside0.mk A40
  clear A40
  have H' := Aside0.mk H
  clear H
  go_enter Try.func29, Try.ntmps29
  go_wp2_with (first | ((with_reducible refine gate_callee (f := 48) rfl ?_); refine goesL_ (some 11) rfl rfl Try.func48 (by kernel_rfl) rfl #[.slice A0 l0.length c0] rfl (by (try simp only [List.map_toArray, List.map_cons, List.map_nil]); first | done | rfl | (simp only [List.length_drop, List.length_take]; rfl)) ?_; (with_reducible refine (drop_keys.calls k (fun k_ => k_ < w.heap.size) _ _ l0 t185 _ ?side1 A4.out).mono ?_); (case side1 => exact Kd.V_mk HC0.out (Kd.F_below (Kd.C_F k23_heap HR0.out) (by repeat (first | (with_reducible first | exact HB.out | apply below_alloc | apply pw_below_drewN | apply below_drew1) | exact HB.out)))); rintro e w5 ⟨v186, rfl, ho0, hb⟩; refine ⟨_, rfl, ?_⟩; have n0_ := Aside0.mk (Kd.N_lower (Kd.N_mono (ok' := fun k_ => True) ho0 (fun k_ hk_ => trivial)) (below_size (by repeat (first | (with_reducible first | exact HB.out | apply below_alloc | apply pw_below_drewN | apply below_drew1) | exact HB.out)))); have n1_ := Aside0.mk (below_step (by repeat (first | (with_reducible first | exact HB.out | apply below_alloc | apply pw_below_drewN | apply below_drew1) | exact HB.out)) hb); clear HB; have HO187 := n0_; have HB := n1_; clear n0_ n1_; (try clear hb); (try clear hb2); (try clear hk); (try clear hi); (try clear ho0); obtain ⟨Ao6, co6, eo6⟩ := Kd.N_slice HO187.out; subst eo6))
  go_loopg [7, 13] k (fun kq v7 v13 w' => ∃ (x7_1 : List (S23)) (x13_1 : Int), v13 = .int .i64 x13_1 ∧ Aside0 (drop_Entries.l0 kq l1 a2 x7_1 t185 (t185.length : Int) x13_1 = some r) ∧ Aside0 (kq ≤ k) ∧ Aside0 (Kd.R k23 23 w' w.heap.size (fun _ => True) v7 x7_1) ∧ Aside0 (Kd.N (Kd.slice 23 k23) 27 w' w.heap.size (fun k_ => some k_ ≠ (v7 : Value).ownBlock) (.slice Ao6 t185.length co6) t185) ∧ Aside0 (Below w.heap.size w w'))
  case atStart => exact ⟨(([] : List (S23))), (0), (by first | rfl | (simp; done) | (simp [*]; done)), H', ⟨Nat.le_refl _⟩, ⟨by first | exact Kd.R_nil _ _ _ _ _ | exact Kd.N_nil _ _ _ _ _ | exact Kd.V_nil _ _ _ _ _ | exact Kd.Q_nil _ _ _ _ _ | exact Kd.S_nil _ _ _ _ _⟩, ⟨by (with_reducible repeat (first | apply Kd.N_alloc | apply Kd.N_drewN | apply Kd.N_drew)); exact Kd.N_mono HO187.out (fun _ hk => (by simp [Value.ownBlock]))⟩, ⟨by repeat (first | (with_reducible first | exact HB.out | apply below_alloc | apply pw_below_drewN | apply below_drew1) | exact HB.out)⟩⟩
  case round =>
    clear H'
    try clear c1
    try clear c2
    try clear p2
    try clear c4
    obtain ⟨x7_1, x13_1, rfl, HA, HK1, HO_7, HO_11, HB⟩ := hrel
    cases gk with
    | zero => exact absurd HA.out (by simp [drop_Entries.l0])
    | succ k1 =>
      have H := HA.out
      clear HA
      simp only [drop_Entries.l0] at H
      by_cases c7 : x13_1 < (t185.length : Int)
      · rw [if_pos c7] at H
        have c7b0 : decide (x13_1 < (t185.length : Int)) = true := decide_eq_true c7
        clear c7
        by_cases c8 : 0 ≤ x13_1
        · rw [if_pos c8] at H
          have c8b0 : decide (0 ≤ x13_1) = true := decide_eq_true c8
          clear c8
          by_cases c9 : x13_1 < (t185.length : Int)
          · rw [if_pos c9] at H
            have c9b0 : decide (x13_1 < (t185.length : Int)) = true := decide_eq_true c9
            clear c9
            replace H := Option.bind_eq_some_iff.mp H
            obtain ⟨t189, A100, H⟩ := H
            replace H : (if x7_1.length + t189.length < 2199023255552 then (drop_Entries.l0 k1 l1 a2 (x7_1 ++ t189) t185 (t185.length : Int) (wrap64 (x13_1 + 1))) else (none)) = some r := H
            have A10 := Aside0.mk A100
            clear A100
            by_cases c11 : x7_1.length + t189.length < 2199023255552
            · rw [if_pos c11] at H
              have LMc11 := Aside0.mk c11
              clear c11
              obtain ⟨y192, hy192⟩ : ∃ y_ : List (S23), y_ = (x7_1 ++ t189) := ⟨_, rfl⟩
              replace H : (drop_Entries.l0 k1 l1 a2 y192 t185 (t185.length : Int) (wrap64 (x13_1 + 1))) = some r := by first | (rw [hy192]; with_reducible exact H) | (have H2_ := (Option.bind_some _ _).symm.trans H; rw [hy192]; with_reducible exact H2_) | (have H2_ := (Option.bind_some _ _).symm.trans H; with_reducible exact H2_) | with_reducible exact H | (rw [hy192]; exact H) | exact H
              have Ny192 := Aside0.mk hy192
              clear hy192
              have H' := Aside0.mk H
              clear H
              have p188 : 0 ≤ (x13_1 : Int) := of_decide_eq_true (by first | (with_reducible assumption) | assumption)
              have q188 : x13_1 < (t185.length : Int) := of_decide_eq_true (by first | (with_reducible assumption) | assumption)
              obtain ⟨ad188, A188_0, c188_0, e188, hx188_0, hl188_0, hi188_0⟩ := at_L3 (Kd.N_reads' HO_11.out).2.2 x13_1 p188 q188
              cases e188
              obtain ⟨ce188, hce188, hMe188, hcc188⟩ := Kd.N_get HO_11.out [] x13_1 p188 (by first | exact q188 | exact of_decide_eq_true (by first | (with_reducible assumption) | assumption) | (have e_ := (Kd.N_reads' HO_11.out).1; omega))
              obtain ⟨ua188_0, uc188_0, rfl, ul188_0, ge188_0⟩ := Kd.FK_slice_open hMe188
              have hv188_0 := hcc188 0 _ rfl
              rw [Nat.add_zero, show ((Kd.slice 23 k23)).sz = 1 from rfl, Nat.mul_one] at hv188_0
              replace hv188_0 := Option.some.inj (hv188_0.symm.trans hx188_0)
              injection hv188_0 with hva_ hvn_ hvc_
              rw [hva_] at ge188_0
              rw [hvc_] at ul188_0
              have HL188_0 := Aside0.mk (show Kd.V k23 23 _ w.heap.size _ _ (rd_L3 t185 x13_1) from Kd.V_mk ul188_0 ge188_0)
              clear hva_ hvn_ hvc_ ge188_0 ul188_0
              clear hcc188 hce188
              have HR188_0 := Aside0.mk hi188_0
              have HC188_0 := Aside0.mk hl188_0
              clear hi188_0 hl188_0
              replace p188 := eq_true p188
              replace q188 := eq_true q188
              go_wp2_with (first | ((with_reducible refine gate_callee (f := 49) rfl ?_); refine goesL_ (some 21) rfl rfl Try.func49 (by kernel_rfl) rfl #[.slice A188_0 (rd_L3 t185 x13_1).length c188_0, .slice A1 l1.length c1, .bool a2] rfl (by (try simp only [List.map_toArray, List.map_cons, List.map_nil]); first | done | rfl | (simp only [List.length_drop, List.length_take]; rfl)) ?_; (with_reducible refine (drop_versions.calls _ _ (rd_L3 t185 x13_1) _ _ l1 a2 t189 _ ?side1 ?side2 ?side3 ?side4 A10.out).mono ?_); (case side1 => repeat (first | exact (by repeat (first | (with_reducible exact HR188_0.out) | (with_reducible refine Kd.C_alloc ?_ _) | (with_reducible refine Kd.C_drewN ?_ _) | (with_reducible refine Kd.C_drew ?_) | exact HR188_0.out)) | (with_reducible refine Kd.C_alloc ?_ _) | (with_reducible refine Kd.C_drewN ?_ _) | (with_reducible refine Kd.C_drew ?_))); (case side2 => exact HC188_0.out); (case side3 => repeat (first | exact (Kd.C_below HR1.out HB.out) | (with_reducible refine Kd.C_alloc ?_ _) | (with_reducible refine Kd.C_drewN ?_ _) | (with_reducible refine Kd.C_drew ?_))); (case side4 => exact HC1.out); rintro e w12 ⟨v190, rfl, ho0, hb⟩; refine ⟨_, rfl, ?_⟩; have n0_ := Aside0.mk (Kd.R_elder' (by (with_reducible repeat (first | apply Kd.R_alloc | apply Kd.R_drewN | apply Kd.R_drew)); exact HO_7.out) (Kd.R_base ho0) hb); have n1_ := Aside0.mk (Kd.N_elder' (by (with_reducible repeat (first | apply Kd.N_alloc | apply Kd.N_drewN | apply Kd.N_drew)); exact HO_11.out) (Kd.R_base ho0) hb); have n2_ := Aside0.mk (Kd.V_elder' (by (with_reducible repeat (first | apply Kd.V_alloc | apply Kd.V_drewN | apply Kd.V_drew)); exact HL188_0.out) (Kd.R_base ho0) hb); have n3_ := Aside0.mk (Kd.R_lower (Kd.R_new' ho0 (Kd.R_lt (by (with_reducible repeat (first | apply Kd.R_alloc | apply Kd.R_drewN | apply Kd.R_drew)); exact HO_7.out))) (below_size (by repeat (first | (with_reducible first | exact HB.out | apply below_alloc | apply pw_below_drewN | apply below_drew1) | exact HB.out)))); have n4_ := Aside0.mk (Kd.C_below (by repeat (first | (with_reducible exact HR188_0.out) | (with_reducible refine Kd.C_alloc ?_ _) | (with_reducible refine Kd.C_drewN ?_ _) | (with_reducible refine Kd.C_drew ?_) | exact HR188_0.out)) hb); have n5_ := Aside0.mk (below_step (by repeat (first | (with_reducible first | exact HB.out | apply below_alloc | apply pw_below_drewN | apply below_drew1) | exact HB.out)) hb); clear HO_7; clear HO_11; clear HL188_0; clear HR188_0; clear HB; have HO_7 := n0_; have HO_11 := n1_; have HL188_0 := n2_; have HO191 := n3_; have HR188_0 := n4_; have HB := n5_; clear n0_ n1_ n2_ n3_ n4_ n5_; (try clear hb); (try clear hb2); (try clear hk); (try clear hi); (try clear ho0); obtain ⟨Ao14, co14, eo14⟩ := Kd.R_slice HO191.out; subst eo14) | ((with_reducible refine gate_builtin (b := .append) (xs := #[.tmp 17, .tmp 21]) rfl ?_); at_builtin; refine Kd.R_append_rows k23 (w0 := w) w.heap.size rfl (.tmp 17) (.tmp 21) 27 23 (.agg #[(.string ⟨#[]⟩), (.int .i64 0), (.int .i64 0), (.string ⟨#[]⟩), (.string ⟨#[]⟩)]) 64 rfl Try.underlying27 info23 rfl (by decide) (by omega) u7 x7_1 t189 _ _ _ (fun k_ => some k_ ≠ (.slice Ao14 t189.length co14 : Value).ownBlock) (fun _ => False) rfl rfl ?aO ?aR (fun _ _ h => h) (fun _ h => h.elim) ?aF ?aB ?aS ?aL ?_; (case aR => repeat (first | exact (Kd.R_reads' HO191.out).2.2 | (with_reducible refine Kd.C_alloc ?_ _) | (with_reducible refine Kd.C_drewN ?_ _) | (with_reducible refine Kd.C_drew ?_))); (case aB => exact (by repeat (first | (with_reducible first | exact HB.out | apply below_alloc | apply pw_below_drewN | apply below_drew1) | exact HB.out))); (case aF => exact (fun k_ hk => Kd.fresh' (Kd.R_lt (by (with_reducible repeat (first | apply Kd.R_alloc | apply Kd.R_drewN | apply Kd.R_drew)); exact HO191.out)) k_ hk)); (case aO => exact (by (with_reducible repeat (first | apply Kd.R_alloc | apply Kd.R_drewN | apply Kd.R_drew)); exact Kd.R_mono HO_7.out (fun _ hk => hk.2))); (case aS => exact (below_size (by repeat (first | (with_reducible first | exact HB.out | apply below_alloc | apply pw_below_drewN | apply below_drew1) | exact HB.out)))); (case aL => have := LMc11.out; omega); intro v193 w13 ho hb hg hat; rw [← Ny192.out] at ho; have n0_ := Aside0.mk (Kd.N_afterv (ok := (fun k_ => some k_ ≠ (.slice Ao14 t189.length co14 : Value).ownBlock)) (by (with_reducible repeat (first | apply Kd.N_alloc | apply Kd.N_drewN | apply Kd.N_drew)); exact Kd.N_mono HO_11.out (fun _ hk => ⟨hk.2, hk.1⟩)) hg hat); have n1_ := Aside0.mk (Kd.V_afterv (ok := (fun k_ => some k_ ≠ (.slice (some ad188) t185.length co6 : Value).ownBlock ∧ some k_ ≠ (.slice Ao14 t189.length co14 : Value).ownBlock)) (by (with_reducible repeat (first | apply Kd.V_alloc | apply Kd.V_drewN | apply Kd.V_drew)); exact Kd.V_mono HL188_0.out (fun _ hk => ⟨⟨hk.1.2, hk.2⟩, hk.1.1⟩)) hg hat); have n2_ := Aside0.mk (Kd.R_after (ok := (fun _ => True)) (by (with_reducible repeat (first | apply Kd.R_alloc | apply Kd.R_drewN | apply Kd.R_drew)); exact HO191.out) hg hat); have n3_ := Aside0.mk (hb); have n4_ := Aside0.mk (ho); clear HO_11; clear HL188_0; clear HO191; clear HB; clear HO_7; have HO_11 := n0_; have HL188_0 := n1_; have HO191 := n2_; have HB := n3_; have HO194 := n4_; clear n0_ n1_ n2_ n3_ n4_; clear ho hb hg hat))
              go_roundg k1
              case measure => have := HK1.out; omega
              case rel => exact ⟨(y192), (wrap64 (x13_1 + 1)), (by first | rfl | (simp; done) | (simp [*]; done)), H', ⟨by have := HK1.out; omega⟩, ⟨by (with_reducible repeat (first | apply Kd.R_alloc | apply Kd.R_drewN | apply Kd.R_drew)); exact Kd.R_mono HO194.out (fun _ hk => trivial)⟩, ⟨by (with_reducible repeat (first | apply Kd.N_alloc | apply Kd.N_drewN | apply Kd.N_drew)); exact Kd.N_mono HO_11.out (fun _ hk => hk.2)⟩, ⟨by repeat (first | (with_reducible first | exact HB.out | apply below_alloc | apply pw_below_drewN | apply below_drew1) | exact HB.out)⟩⟩
            · rw [if_neg c11] at H
              exact absurd H (by simp)
          · rw [if_neg c9] at H
            exact absurd H (by simp)
        · rw [if_neg c8] at H
          exact absurd H (by simp)
      · rw [if_neg c7] at H
        have c7b0 : decide (x13_1 < (t185.length : Int)) = false := decide_eq_false c7
        clear c7
        obtain rfl := Option.some.inj H
        simp only [Option.some.injEq, Prod.mk.injEq] at H
        obtain ⟨rfl⟩ := H
        go_wp2
        go_ret
        exact ⟨_, by first | rfl | (simp [errW_none, errW_some] <;> rfl) | (simp [*, errW_none, errW_some] <;> rfl), by (with_reducible repeat (first | apply Kd.R_alloc | apply Kd.R_drewN | apply Kd.R_drew)); exact HO_7.out, by repeat (first | (with_reducible first | exact HB.out | apply below_alloc | apply pw_below_drewN | apply below_drew1) | exact HB.out)⟩

/-! ### drop_Seen: function 32, by hand (types of seat b) -/
theorem slice_at {w : World} {A : Option Addr} {n : Nat} {ks : List (List S23)} (h : Kd.C (Kd.slice 23 k23) w A n ks) (j : Nat) (h1 : j < n) : ∃ ad A' c', A = some ad ∧ w.cell? (ad.add j) = some (.slice A' (ks.getD j []).length c') ∧ (ks.getD j []).length ≤ c' ∧ Kd.C k23 w A' (ks.getD j []).length (ks.getD j []) := by
  obtain ⟨ad, c, e, _, hK, hc⟩ := Kd.C_get h ([] : List S23) (j : Int) (by omega) (by omega)
  rw [Int.toNat_natCast] at hK hc
  obtain ⟨A', c', rfl, hl, hC⟩ := hK
  refine ⟨ad, A', c', e, ?_, hl, hC⟩
  have := hc 0 _ rfl
  rwa [show (Kd.slice 23 k23).sz = 1 from rfl, Nat.mul_one, Nat.add_zero] at this
def seenStep (seq : Int) (g : List S23) : List S23 :=
  if 0 ≤ idxB (fun x : S23 => decide (x.f1 ≤ seq)) g 0 then (if (rd_T23 g (idxB (fun x : S23 => decide (x.f1 ≤ seq)) g 0)).f2 = 1 then [rd_T23 g (idxB (fun x : S23 => decide (x.f1 ≤ seq)) g 0)] else []) else []
theorem seenStep_len (seq : Int) (g : List S23) : (seenStep seq g).length ≤ 1 := by unfold seenStep; split <;> (try split) <;> simp
theorem idxB_lt {α : Type} (p : α → Bool) : ∀ (xs : List α) (i : Int), idxB p xs i < i + xs.length ∨ idxB p xs i = -1
  | [], i => .inr rfl
  | x :: t, i => by
    simp only [idxB, List.length_cons]
    split
    · exact .inl (by omega)
    · rcases idxB_lt p t (i + 1) with h | h
      · exact .inl (by omega)
      · exact .inr h
def drop_Seen.f (k : Nat) (l0 : List S23) (a1 : Int) : Option (List S23) := (drop_keys.f k l0).bind fun ks => if ks.length < 2000000000000 then some (ks.flatMap (seenStep a1)) else none
set_option maxHeartbeats 8000000 in
theorem drop_Seen.calls (k : Nat) (A0 : Option Addr) (c0 : Nat) (l0 : List S23) (a1 : Int) (r : List S23) (w : World) (hr0 : Kd.C k23 w A0 l0.length l0) (hc0 : l0.length ≤ c0) (h : drop_Seen.f k l0 a1 = some r) :
    Calls Try.prog 32 #[.slice A0 l0.length c0, .int .i64 a1] w fun e w' => ∃ v0_ : Value, e = .returned (v0_) ∧ Kd.R k23 23 w' w.heap.size (fun _ => True) v0_ r ∧ Below w.heap.size w w' := by
  have hu23 := Try.underlying23
  unfold drop_Seen.f at h
  obtain ⟨ks, hks, h⟩ := Option.bind_eq_some_iff.mp h
  by_cases hkl : ks.length < 2000000000000
  · rw [if_pos hkl] at h
    have HF := Aside0.mk (Option.some.inj h)
    have HK := Aside0.mk hks
    have HR := Aside0.mk hr0
    clear h hks hr0
    have HE := Aside0.mk (enters_of Try.func53 (by kernel_rfl) rfl)
    go_enter Try.func32, Try.ntmps32
    go_wp2_with (fail)
    refine (drop_keys.calls k _ A0 c0 l0 ks _ (Kd.V_mk hc0 (Kd.C_F k23_heap (Kd.C_alloc HR.out _))) HK.out).mono ?_
    rintro e w1 ⟨vk, rfl, hN, hb⟩
    obtain ⟨Ak, ck, rfl⟩ := Kd.N_slice hN
    have HN := Aside0.mk (Kd.N_reads' hN).2.2
    have hks0 := Kd.C_max HN.out
    have HB1 := Aside0.mk (below_step (below_alloc (Below.refl w.heap.size w) (.cells #[.int .i64 a1] 2)) hb)
    have HG := Aside0.mk ((hb.block w.heap.size (by simp)).trans (alloc_at0 w (.cells #[.int .i64 a1] 2) _ rfl))
    have hsz : w.heap.size + 1 ≤ w1.heap.size := by have h_ := hb.size; simpa using h_
    obtain ⟨gs, hgs⟩ : ∃ g, Aside0 (g = w.heap.size) := ⟨_, ⟨rfl⟩⟩
    rw [← hgs.out] at HG ⊢
    clear hN hb
    go_wp2
    go_loopg [5, 12] ks.length (fun kx s5 s12 wr => ∃ (j : Nat) (out : List S23), s12 = .int .i64 j ∧ j + kx = ks.length ∧ Aside0 (Below w1.heap.size w1 wr) ∧ Aside0 (Kd.R k23 23 wr w1.heap.size (fun _ => True) s5 out) ∧ Aside0 (out ++ (ks.drop j).flatMap (seenStep a1) = r) ∧ Aside0 (out.length ≤ j))
    case atStart => exact ⟨0, [], rfl, by omega, ⟨Below.refl _ _⟩, ⟨Kd.R_nil _ _ _ _ _⟩, ⟨by simpa using HF.out⟩, ⟨by simp⟩⟩
    case round =>
      obtain ⟨j, out, rfl, hk, HB, HO, HP, HL⟩ := hrel
      cases gk with
      | zero =>
        have hlt : ((j : Int) < (ks.length : Int)) = False := eq_false (by omega)
        have hre := HP.out
        rw [List.drop_eq_nil_of_le (by omega), List.flatMap_nil, List.append_nil] at hre
        subst hre
        go_wp2
        go_ret
        exact ⟨_, rfl, Kd.R_lower HO.out (by omega), HB1.out.trans (HB.out.mono (by omega))⟩
      | succ gk =>
        have hlt : ((j : Int) < (ks.length : Int)) = True := eq_true (by omega)
        have hlt1 : (j < ks.length) = True := eq_true (by omega)
        have hj0 : ((0 : Int) ≤ (j : Int)) = True := eq_true (by omega)
        have hw64 : Aside0 (wrap64 ((j : Int) + 1) = ((j + 1 : Nat) : Int)) := ⟨by unfold wrap64; omega⟩
        have hdj : ks.drop j = ks.getD j [] :: ks.drop (j + 1) := by
          rw [List.drop_eq_getElem_cons (by omega), List.getD_eq_getElem?_getD, List.getElem?_eq_getElem (by omega)]; rfl
        have hP := HP.out
        rw [hdj, List.flatMap_cons] at hP
        clear hdj HP
        obtain ⟨ad, A', c', rfl, g0, hl', hC'⟩ := slice_at (Kd.C_below HN.out HB.out) j (by omega)
        generalize ks.getD j [] = g at hP g0 hl' hC'
        have HP := Aside0.mk hP
        have HC := Aside0.mk hC'
        have HG2 := Aside0.mk ((HB.out.block gs (blk_lt HG.out)).trans HG.out)
        clear hP hC'
        go_wp2_with (fail)
        refine (IndexFuncE.calls 53 _ HE.out _ A' c' g _ HC.out (Seen1.calls gs a1 _ HG2.out)).mono ?_
        rintro e w2 ⟨rfl, hb2⟩
        have HB2 := Aside0.mk (HB.out.trans (hb2.mono (by have := HB.out.size; omega)))
        have HO2 := Aside0.mk (Kd.R_below HO.out hb2)
        have HC2 := Aside0.mk (Kd.C_below HC.out hb2)
        have hix := idxB_lt (fun x : S23 => decide (x.f1 ≤ a1)) g 0
        obtain ⟨s, hs⟩ : ∃ s, Aside0 (s = seenStep a1 g) := ⟨_, ⟨rfl⟩⟩
        have hsl := seenStep_len a1 g
        rw [← hs.out] at HP hsl
        have HS := Aside0.mk (show s = _ from hs.out)
        unfold seenStep at HS
        generalize idxB (fun x : S23 => decide (x.f1 ≤ a1)) g 0 = i at hix HS ⊢
        clear hb2 hs HB HO HG2 HC g0
        by_cases hi : 0 ≤ i
        · have hi1 : i < g.length := by omega
          obtain ⟨ad2, rfl, g0, g1, g2, g3, g4⟩ := at_T23 HC2.out i hi hi1
          rw [if_pos hi] at HS
          generalize rd_T23 g i = y at HS g0 g1 g2 g3 g4
          have hit : (0 ≤ i) = True := eq_true hi
          have hit1 : (i < (g.length : Int)) = True := eq_true hi1
          by_cases hy : y.f2 = 1
          · rw [if_pos hy] at HS
            have hyb : (y.f2 == 1) = true := by simp [hy]
            have HY := Aside0.mk hy
            have hHS := HS.out
            subst hHS
            clear hy HS
            have hbd : (out.length + 1) * 64 ≤ 140737488355328 := by have := HL.out; omega
            go_wp2_with (first | ((with_reducible refine gate_builtin (b := .append) (xs := #[.tmp 29, .tmp 34]) rfl ?_); at_builtin; refine Kd.R_append k23 (w0 := w1) w1.heap.size rfl (.tmp 29) (.tmp 34) 27 23 (.agg #[(.string ⟨#[]⟩), (.int .i64 0), (.int .i64 0), (.string ⟨#[]⟩), (.string ⟨#[]⟩)]) 64 rfl Try.underlying27 info23 rfl (by decide) (by omega) u5 out y [.string y.f0, .int .i64 y.f1, .int .i64 y.f2, .string y.f3, .string y.f4] (fun _ => True) (fun _ => False) rfl rfl ?aP (fun _ hk => hk.elim) ?aF ?aO ?aB ?aS ?aL ?_; (case aP => exact k23_mkM _ _ _ y); (case aB => exact HB2.out); (case aF => exact (fun _ _ => trivial)); (case aO => exact HO2.out); (case aS => exact HB2.out.size); (case aL => exact hbd); intro v3 w3 ho hb hg hat; have HO3 := Aside0.mk ho; have HB3 := Aside0.mk hb; clear ho hb hg hat))
            go_roundg gk
            case measure => omega
            case rel =>
              have hP := HP.out
              rw [← List.append_assoc] at hP
              exact ⟨j + 1, _, by first | rw [hw64.out] | rfl, by omega, HB3, HO3, ⟨hP⟩, ⟨by have := HL.out; simp; omega⟩⟩
          · rw [if_neg hy] at HS
            have hyb : (y.f2 == 1) = false := by simp [hy]
            have hHS := HS.out
            subst hHS
            clear hy HS
            go_wp2_with (fail)
            go_roundg gk
            case measure => omega
            case rel =>
              have hP := HP.out
              rw [List.nil_append] at hP
              exact ⟨j + 1, _, by first | rw [hw64.out] | rfl, by omega, HB2, HO2, ⟨hP⟩, ⟨by have := HL.out; omega⟩⟩
        · have hit : (0 ≤ i) = False := eq_false hi
          rw [if_neg hi] at HS
          have hHS := HS.out
          subst hHS
          clear HS
          go_wp2_with (fail)
          go_roundg gk
          case measure => omega
          case rel =>
            have hP := HP.out
            rw [List.nil_append] at hP
            exact ⟨j + 1, _, by first | rw [hw64.out] | rfl, by omega, HB2, HO2, ⟨hP⟩, ⟨by have := HL.out; omega⟩⟩
  · rw [if_neg hkl] at h; cases h
theorem drop_Seen.mono : ∀ a0 a1 k, LeO (drop_Seen.f k a0 a1) (drop_Seen.f (k + 1) a0 a1) := by
  intro a0 a1 k
  unfold drop_Seen.f
  exact LeO.bind (drop_keys.mono _ k) (fun p => LeO.refl _)

/-! ### drop_Cut: function 34, by hand (types of seat b) -/
def addE (s : Int) (e : S23) : Int := wrap64 (s + wrap64 (wrap64 (wrap64 ((e.f0.size : Int) + (e.f3.size : Int)) + (e.f4.size : Int)) + 32))
def sumE (s : Int) (g : List S23) : Int := g.foldl addE s
def cutR : List (List S23) → List (List S23) → List S23 → Int → List (List S23)
  | [], out, piece, _ => if 0 < piece.length then out ++ [piece] else out
  | g :: t, out, piece, size => if sumE size g ≥ 1500 then cutR t (out ++ [piece ++ g]) [] 0 else cutR t out (piece ++ g) (sumE size g)
def drop_Cut.f (k : Nat) (l0 : List S23) : Option (List (List S23)) := (drop_keys.f k l0).bind fun ks => if ks.length < 2000000000000 ∧ (ks.map List.length).sum < 2000000000000 then some (cutR ks [] [] 0) else none
theorem sum_drop (ks : List (List S23)) (j : Nat) (h : j < ks.length) : ((ks.drop j).map List.length).sum = (ks.getD j []).length + ((ks.drop (j + 1)).map List.length).sum := by
  rw [List.drop_eq_getElem_cons h, List.map_cons, List.sum_cons, List.getD_eq_getElem?_getD, List.getElem?_eq_getElem h]; rfl
theorem R23_own {w : World} {base : Nat} {ok : Nat → Prop} {v : Value} {xs : List S23} (h : Kd.R k23 23 w base ok v xs) : Kd.R k23 23 w base (fun k => some k = v.ownBlock) v xs :=
  ⟨fun k hk => hk.symm, h.2.imp_ (fun x cs hp => by rw [k23_openM hp]; exact k23_mkM _ _ _ _)⟩
theorem own_apart {w : World} {base : Nat} {ok : Nat → Prop} {v u : Value} {xs : List S23} (h : Kd.R k23 23 w base ok v xs) (hu : ∀ k, u.ownBlock = some k → ∃ cells, w.heap[k]? = some (.cells cells 27 (0, 0))) : ∀ k, some k = v.ownBlock → some k ≠ u.ownBlock := by
  intro k hk e
  obtain ⟨c1, h1⟩ := Kd.R_typed h k hk.symm
  obtain ⟨c2, h2⟩ := hu k e.symm
  rw [h1] at h2
  injection h2 with h2
  injection h2 with _ h2
  exact absurd h2 (by decide)
set_option maxHeartbeats 8000000 in
theorem drop_Cut.calls (k : Nat) (A0 : Option Addr) (c0 : Nat) (l0 : List S23) (r : List (List S23)) (w : World) (hr0 : Kd.C k23 w A0 l0.length l0) (hc0 : l0.length ≤ c0) (h : drop_Cut.f k l0 = some r) :
    Calls Try.prog 34 #[.slice A0 l0.length c0] w fun e w' => ∃ v0_ : Value, e = .returned (v0_) ∧ Kd.S (Kd.slice 23 k23) 27 w' w.heap.size (fun _ => True) v0_ r ∧ Below w.heap.size w w' := by
  have hu23 := Try.underlying23
  unfold drop_Cut.f at h
  obtain ⟨ks, hks, h⟩ := Option.bind_eq_some_iff.mp h
  by_cases hkl : ks.length < 2000000000000 ∧ (ks.map List.length).sum < 2000000000000
  · rw [if_pos hkl] at h
    obtain ⟨hkl, hkt⟩ := hkl
    have HF := Aside0.mk (Option.some.inj h)
    have HK := Aside0.mk hks
    have HR := Aside0.mk hr0
    clear h hks hr0
    go_enter Try.func34, Try.ntmps34
    go_wp2_with (fail)
    refine (drop_keys.calls k _ A0 c0 l0 ks _ (Kd.V_mk hc0 (Kd.C_F k23_heap HR.out)) HK.out).mono ?_
    rintro e w1 ⟨vk, rfl, hN, hb⟩
    obtain ⟨Ak, ck, rfl⟩ := Kd.N_slice hN
    have HN := Aside0.mk (Kd.N_reads' hN).2.2
    have HB1 := Aside0.mk hb
    have hsz := hb.size
    clear hN hb
    go_wp2
    go_loopg [3, 4, 5, 13] ks.length (fun kx s3 s4 s5 s13 wr => ∃ (j : Nat) (out : List (List S23)) (piece : List S23) (size : Int), s13 = .int .i64 j ∧ s5 = .int .i64 size ∧ j + kx = ks.length ∧ Aside0 (Below w1.heap.size w1 wr) ∧ Aside0 (Kd.S (Kd.slice 23 k23) 27 wr w1.heap.size (fun k => True ∧ some k ≠ s4.ownBlock) s3 out) ∧ Aside0 (Kd.R k23 23 wr w1.heap.size (fun _ => True) s4 piece) ∧ Aside0 (cutR (ks.drop j) out piece size = r) ∧ Aside0 (out.length ≤ j) ∧ Aside0 (piece.length + ((ks.drop j).map List.length).sum < 2000000000000))
    case atStart => exact ⟨0, [], [], 0, rfl, rfl, by omega, ⟨Below.refl _ _⟩, ⟨Kd.S_nil _ _ _ _ _⟩, ⟨Kd.R_nil _ _ _ _ _⟩, ⟨by simpa using HF.out⟩, ⟨by simp⟩, ⟨by simpa using hkt⟩⟩
    case round =>
      obtain ⟨j, out, piece, size, rfl, rfl, hk, HB, HO, HV, HP, HL, HT⟩ := hrel
      cases gk with
      | zero =>
        have hlt : ((j : Int) < (ks.length : Int)) = False := eq_false (by omega)
        have hre := HP.out
        rw [List.drop_eq_nil_of_le (by omega), cutR] at hre
        obtain ⟨Av, cv, e3⟩ := Kd.R_slice HV.out
        subst e3
        by_cases hp : 0 < piece.length
        · rw [if_pos hp] at hre
          subst hre
          have hpp : (0 < piece.length) = True := eq_true (by omega)
          have hbd : (out.length + 1) * 24 ≤ 140737488355328 := by have := HL.out; omega
          clear hp
          go_wp2_with (first | ((with_reducible refine gate_builtin (b := .append) (xs := #[.tmp 51, .tmp 53]) rfl ?_); at_builtin; refine Kd.S_append (Kd.slice 23 k23) (w0 := w1) w1.heap.size rfl (.tmp 51) (.tmp 53) 42 27 (.slice none 0 0) 24 rfl Try.underlying42 info27 rfl (by decide) (by omega) u3 out piece [.slice Av piece.length cv] (fun _ => True) (fun k => some k = (Value.slice Av piece.length cv).ownBlock) rfl rfl ?aP (fun k hk_ => ⟨trivial, own_apart HV.out (Kd.S_typed HO.out) k hk_⟩) ?aF ?aO ?aB ?aS ?aL ?_; (case aP => exact ⟨_, rfl, R23_own HV.out⟩); (case aB => exact HB.out); (case aF => exact (fun _ _ => trivial)); (case aO => exact HO.out); (case aS => exact HB.out.size); (case aL => exact hbd); intro v3 w3 ho hb hg hat; have HO3 := Aside0.mk ho; have HB3 := Aside0.mk hb; clear ho hb hg hat))
          go_ret
          exact ⟨_, rfl, Kd.S_lower HO3.out hsz, HB1.out.trans (HB3.out.mono hsz)⟩
        · rw [if_neg hp] at hre
          subst hre
          have hpp : (0 < piece.length) = False := eq_false (by omega)
          clear hp
          go_wp2
          go_ret
          exact ⟨_, rfl, Kd.S_mono (Kd.S_lower HO.out hsz) (fun _ _ => trivial), HB1.out.trans (HB.out.mono hsz)⟩
      | succ gk =>
        have hlt : ((j : Int) < (ks.length : Int)) = True := eq_true (by omega)
        have hlt1 : (j < ks.length) = True := eq_true (by omega)
        have hj0 : ((0 : Int) ≤ (j : Int)) = True := eq_true (by omega)
        have hw64 : Aside0 (wrap64 ((j : Int) + 1) = ((j + 1 : Nat) : Int)) := ⟨by unfold wrap64; omega⟩
        have hdj : ks.drop j = ks.getD j [] :: ks.drop (j + 1) := by
          rw [List.drop_eq_getElem_cons (by omega), List.getD_eq_getElem?_getD, List.getElem?_eq_getElem (by omega)]; rfl
        have hT := HT.out
        rw [sum_drop ks j (by omega)] at hT
        have hP := HP.out
        rw [hdj, cutR] at hP
        clear hdj HP HT
        obtain ⟨ad, A', c', rfl, g0, hl', hC'⟩ := slice_at (Kd.C_below HN.out HB.out) j (by omega)
        generalize ks.getD j [] = g at hP hT g0 hl' hC'
        have HP := Aside0.mk hP
        have HT := Aside0.mk hT
        have HC := Aside0.mk hC'
        have hgm := Kd.C_max hC'
        clear hP hT hC'
        go_wp2
        obtain ⟨wo, rfl⟩ : ∃ wo : World, wo = wr := ⟨_, rfl⟩
        go_loopg [5, 19] g.length (fun kx s5 s19 wr2 => ∃ (i : Nat) (sz : Int), s19 = .int .i64 i ∧ s5 = .int .i64 sz ∧ i + kx = g.length ∧ Aside0 (Below wo.heap.size wo wr2) ∧ Aside0 (sumE sz (g.drop i) = sumE size g))
        case atStart => exact ⟨0, size, rfl, rfl, by omega, ⟨Below.refl _ _⟩, ⟨by simp⟩⟩
        case round =>
          obtain ⟨i, sz, rfl, rfl, hk2, HB2, HZ⟩ := hrel
          cases gk with
          | zero =>
            have hilt : ((i : Int) < (g.length : Int)) = False := eq_false (by omega)
            have hz := HZ.out
            rw [List.drop_eq_nil_of_le (by omega), sumE, List.foldl_nil] at hz
            subst hz
            clear HZ
            have HBo := Aside0.mk (HB.out.trans (HB2.out.mono (by have := HB.out.size; omega)))
            have HOo := Aside0.mk (Kd.S_below HO.out HB2.out)
            have HVo := Aside0.mk (Kd.R_below HV.out HB2.out)
            have HCo := Aside0.mk (Kd.C_below HC.out HB2.out)
            obtain ⟨Av, cv, e4⟩ := Kd.R_slice HV.out
            subst e4
            have hbd : (piece.length + g.length) * 64 ≤ 140737488355328 := by have := HT.out; omega
            obtain ⟨p2, hp2⟩ : ∃ p, Aside0 (p = piece ++ g) := ⟨_, ⟨rfl⟩⟩
            have hp2l : Aside0 (p2.length = piece.length + g.length) := ⟨by rw [hp2.out, List.length_append]⟩
            have hP := HP.out
            rw [← hp2.out] at hP
            clear HP HB2 HB HO HV HC
            by_cases hs : sumE size g ≥ 1500
            · rw [if_pos hs] at hP
              have HP := Aside0.mk hP
              have hs1 : (1500 ≤ sumE size g) = True := eq_true hs
              have hbd2 : (out.length + 1) * 24 ≤ 140737488355328 := by have := HL.out; omega
              generalize sumE size g = sz2 at hs1 ⊢
              clear hs hP
              go_wp2_with (first | ((with_reducible refine gate_builtin (b := .append) (xs := #[.tmp 38, .tmp 39]) rfl ?_); at_builtin; refine Kd.R_append_rows k23 (Rr := k23.K wr) (w0 := w1) w1.heap.size rfl (.tmp 38) (.tmp 39) 27 23 (.agg #[(.string ⟨#[]⟩), (.int .i64 0), (.int .i64 0), (.string ⟨#[]⟩), (.string ⟨#[]⟩)]) 64 rfl Try.underlying27 info23 rfl (by decide) (by omega) (.slice Av piece.length cv) piece g A' g.length c' (fun _ => True) (fun _ => False) rfl rfl ?aO ?aR (fun x cs h_ => by rw [k23_open h_]; exact k23_mkM _ _ _ _) (fun _ h_ => h_.elim) ?aF ?aB ?aS ?aL ?_; (case aO => exact HVo.out); (case aR => exact HCo.out); (case aF => exact (fun _ _ => trivial)); (case aB => exact HBo.out); (case aS => exact HBo.out.size); (case aL => exact hbd); intro v3 w3 ho hb hg hat; rw [← hp2.out] at ho; obtain ⟨A3, c3, e3⟩ := Kd.R_slice ho; subst e3; have HV3 := Aside0.mk ho; have HB3 := Aside0.mk hb; have HO3 := Aside0.mk (Kd.S_after HOo.out hg hat); clear ho hb hg hat) | ((with_reducible refine gate_builtin (b := .append) (xs := #[.tmp 43, .tmp 45]) rfl ?_); at_builtin; refine Kd.S_append (Kd.slice 23 k23) (w0 := w1) w1.heap.size rfl (.tmp 43) (.tmp 45) 42 27 (.slice none 0 0) 24 rfl Try.underlying42 info27 rfl (by decide) (by omega) u3 out p2 [.slice A3 p2.length c3] (fun _ => True) (fun k => some k = (Value.slice A3 p2.length c3).ownBlock) rfl rfl ?aP (fun k hk_ => ⟨trivial, own_apart HV3.out (Kd.S_typed HO3.out) k hk_⟩) ?aF ?aO ?aB ?aS ?aL ?_; (case aP => exact ⟨_, rfl, R23_own HV3.out⟩); (case aB => exact HB3.out); (case aF => exact (fun _ _ => trivial)); (case aO => exact HO3.out); (case aS => exact HB3.out.size); (case aL => exact hbd2); intro v5 w5 ho hb hg hat; have HO5 := Aside0.mk ho; have HB5 := Aside0.mk hb; clear ho hb hg hat))
              go_roundg gk
              case measure => omega
              case rel => exact ⟨j + 1, _, [], 0, by first | rw [hw64.out] | rfl, rfl, by omega, HB5, ⟨Kd.S_apart_nil HO5.out⟩, ⟨Kd.R_nil _ _ _ _ _⟩, HP, ⟨by have := HL.out; simp; omega⟩, ⟨by have := HT.out; simp only [List.length_nil]; omega⟩⟩
            · rw [if_neg hs] at hP
              have HP := Aside0.mk hP
              have hs1 : (1500 ≤ sumE size g) = False := eq_false (by omega)
              generalize sumE size g = sz2 at hs1 HP ⊢
              clear hs hP
              go_wp2_with (first | ((with_reducible refine gate_builtin (b := .append) (xs := #[.tmp 38, .tmp 39]) rfl ?_); at_builtin; refine Kd.R_append_rows k23 (Rr := k23.K wr) (w0 := w1) w1.heap.size rfl (.tmp 38) (.tmp 39) 27 23 (.agg #[(.string ⟨#[]⟩), (.int .i64 0), (.int .i64 0), (.string ⟨#[]⟩), (.string ⟨#[]⟩)]) 64 rfl Try.underlying27 info23 rfl (by decide) (by omega) (.slice Av piece.length cv) piece g A' g.length c' (fun _ => True) (fun _ => False) rfl rfl ?aO ?aR (fun x cs h_ => by rw [k23_open h_]; exact k23_mkM _ _ _ _) (fun _ h_ => h_.elim) ?aF ?aB ?aS ?aL ?_; (case aO => exact HVo.out); (case aR => exact HCo.out); (case aF => exact (fun _ _ => trivial)); (case aB => exact HBo.out); (case aS => exact HBo.out.size); (case aL => exact hbd); intro v3 w3 ho hb hg hat; rw [← hp2.out] at ho; have HV3 := Aside0.mk ho; have HB3 := Aside0.mk hb; have HO3 := Aside0.mk (Kd.S_after HOo.out hg hat); clear ho hb hg hat))
              go_roundg gk
              case measure => omega
              case rel => exact ⟨j + 1, out, p2, sz2, by first | rw [hw64.out] | rfl, rfl, by omega, HB3, HO3, HV3, HP, ⟨by have := HL.out; omega⟩, ⟨by have := HT.out; have := hp2l.out; omega⟩⟩
          | succ gk2 =>
            have hilt : ((i : Int) < (g.length : Int)) = True := eq_true (by omega)
            have hilt1 : (i < g.length) = True := eq_true (by omega)
            have hi0 : ((0 : Int) ≤ (i : Int)) = True := eq_true (by omega)
            have hw64 : Aside0 (wrap64 ((i : Int) + 1) = ((i + 1 : Nat) : Int)) := ⟨by unfold wrap64; omega⟩
            have hdi : g.drop i = rd_T23 g (i : Int) :: g.drop (i + 1) := by
              unfold rd_T23
              rw [Int.toNat_natCast, List.drop_eq_getElem_cons (by omega), List.getD_eq_getElem?_getD, List.getElem?_eq_getElem (by omega)]; rfl
            have hz := HZ.out
            rw [hdi, sumE, List.foldl_cons] at hz
            clear hdi HZ
            obtain ⟨ad2, rfl, g1, g2, g3, g4, g5⟩ := at_T23 (Kd.C_below HC.out HB2.out) (i : Int) (by omega) (by omega)
            rw [Int.toNat_natCast] at g1
            simp only [Int.toNat_natCast] at g2 g3 g4 g5
            generalize rd_T23 g (i : Int) = y at hz g1 g2 g3 g4 g5
            obtain ⟨sz2, hsz2⟩ : ∃ z, Aside0 (z = addE sz y) := ⟨_, ⟨rfl⟩⟩
            rw [← hsz2.out] at hz
            have HZ := Aside0.mk hz
            have HS2 := Aside0.mk hsz2.out.symm
            unfold addE at HS2
            clear hz hsz2
            go_wp2

            go_roundg gk2
            case measure => omega
            case rel => exact ⟨i + 1, sz2, by first | rw [hw64.out] | rfl, by rw [HS2.out], by omega, ⟨below_alloc HB2.out _⟩, HZ⟩
  · rw [if_neg hkl] at h; cases h
theorem drop_Cut.mono : ∀ a0 k, LeO (drop_Cut.f k a0) (drop_Cut.f (k + 1) a0) := by
  intro a0 k
  unfold drop_Cut.f
  exact LeO.bind (drop_keys.mono _ k) (fun p => LeO.refl _)

/-! ### incipitlaw23_begun: function 27, by hand (types of seat b) -/
theorem flatMap_at {α : Type} (f : α → List Value) (sz : Nat) : ∀ (xs : List α), (∀ x ∈ xs, (f x).length = sz) → ∀ (j : Nat) (p : α), xs[j]? = some p → ∀ i u, (f p)[i]? = some u → (xs.flatMap f)[j * sz + i]? = some u
  | [], _, j, p, h, i, u, hu => by simp at h
  | x :: t, hl, 0, p, h, i, u, hu => by
    obtain rfl : x = p := by simpa using h
    rw [List.flatMap_cons, Nat.zero_mul, Nat.zero_add, List.getElem?_append_left (List.getElem?_eq_some_iff.1 hu).1]
    exact hu
  | x :: t, hl, j + 1, p, h, i, u, hu => by
    have h0 := hl x (List.mem_cons_self ..)
    rw [List.flatMap_cons, List.getElem?_append_right (by rw [h0, Nat.add_mul]; omega), h0]
    have := flatMap_at f sz t (fun y hy => hl y (List.mem_cons_of_mem _ hy)) j p (by simpa using h) i u hu
    rw [← this]
    congr 1
    rw [Nat.add_mul]; omega
/-- A row that was written out, read. -/
theorem row_C {α : Type} {d : Kd α} {w : World} {g t : Nat} (xs : List α) (f : α → List Value) (hK : ∀ x ∈ xs, d.K w x (f x)) (h : w.heap[g]? = some (.cells (xs.flatMap f).toArray t (0, 0))) (hm : xs.length ≤ 9223372036854775807) : Kd.C d w (some ⟨g, 0, none⟩) xs.length xs := by
  refine ⟨rfl, hm, fun _ => ⟨⟨g, 0, none⟩, rfl, fun j p hj => ?_⟩⟩
  have hp := hK p (List.mem_of_getElem? hj)
  refine ⟨f p, d.K_len hp, hp, fun i u hu => ?_⟩
  rw [add_plain]
  refine (blk_cell h _).trans ?_
  have := flatMap_at f d.sz xs (fun x hx => d.K_len (hK x hx)) j p hj i u hu
  simpa using this
def lb23 : List S23 := [(⟨(⟨#[97]⟩ : ByteArray), 3, 0, (⟨#[]⟩ : ByteArray), (⟨#[]⟩ : ByteArray)⟩ : S23), (⟨(⟨#[97]⟩ : ByteArray), 2, 1, (⟨#[]⟩ : ByteArray), (⟨#[118]⟩ : ByteArray)⟩ : S23)]
def incipitlaw23_begun.f (k : Nat) : Option Bool :=
  (drop_Entries.f k lb23 [] false).bind fun a => (drop_Entries.f k lb23 [] true).bind fun b => (drop_Entries.f k lb23 [2] true).bind fun c => (drop_Seen.f k lb23 2).bind fun d => (drop_Seen.f k lb23 3).bind fun e => (drop_Cut.f k lb23).bind fun g =>
  if a.length = 1 ∧ b.length = 0 ∧ c.length = 2 ∧ d.length = 1 ∧ e.length = 0 ∧ g.length = 1 then some true else none
set_option maxHeartbeats 8000000 in
theorem incipitlaw23_begun.calls (k : Nat) (r : Bool) (w : World) (hrt : r = true) (h : incipitlaw23_begun.f k = some r) :
    Calls Try.prog 27 #[] w fun e w' => e = .returned (.bool r) ∧ Below w.heap.size w w' := by
  subst hrt
  unfold incipitlaw23_begun.f at h
  obtain ⟨a, ha, h⟩ := Option.bind_eq_some_iff.mp h
  obtain ⟨b, hb, h⟩ := Option.bind_eq_some_iff.mp h
  obtain ⟨c, hc, h⟩ := Option.bind_eq_some_iff.mp h
  obtain ⟨d, hd, h⟩ := Option.bind_eq_some_iff.mp h
  obtain ⟨e, he, h⟩ := Option.bind_eq_some_iff.mp h
  obtain ⟨g, hg, h⟩ := Option.bind_eq_some_iff.mp h
  split at h
  case isFalse => cases h
  rename_i hall
  obtain ⟨la, lb, lc, ld, le, lg⟩ := hall
  have HA := Aside0.mk ha
  have HB := Aside0.mk hb
  have HC := Aside0.mk hc
  have HD := Aside0.mk hd
  have HE := Aside0.mk he
  have HG := Aside0.mk hg
  have la' : ((a.length : Int) == 1) = true := by simp [la]
  have lb' : ((b.length : Int) == 0) = true := by simp [lb]
  have lc' : ((c.length : Int) == 2) = true := by simp [lc]
  have ld' : ((d.length : Int) == 1) = true := by simp [ld]
  have le' : ((e.length : Int) == 0) = true := by simp [le]
  have lg' : ((g.length : Int) == 1) = true := by simp [lg]
  clear ha hb hc hd he hg h la lb lc ld le lg
  go_enter Try.func27, Try.ntmps27
  go_wp2_with (fail)
  have hw1 : ∃ W1 : World, W1 = w.alloc (Obj.cells #[Value.string { data := #[97] }, Value.int IntKind.i64 3, Value.int IntKind.i64 0, Value.string { data := #[] }, Value.string { data := #[] }, Value.string { data := #[97] }, Value.int IntKind.i64 2, Value.int IntKind.i64 1, Value.string { data := #[] }, Value.string { data := #[118] }] 23) := ⟨_, rfl⟩
  obtain ⟨W1, hW1⟩ := hw1
  rw [← hW1]
  have HB1 := Aside0.mk (show Below w.heap.size w W1 by rw [hW1]; exact below_alloc (Below.refl _ _) _)
  have HL := Aside0.mk (show Kd.C k23 W1 (some ⟨w.heap.size, 0, none⟩) lb23.length lb23 from row_C (t := 23) lb23 (fun x => [.string x.f0, .int .i64 x.f1, .int .i64 x.f2, .string x.f3, .string x.f4]) (fun x _ => k23_mk _ x) (by rw [hW1]; exact alloc_at0 w _ _ rfl) (by decide))
  obtain ⟨gl, hgl⟩ : ∃ g, g = w.heap.size := ⟨_, rfl⟩
  rw [← hgl] at HL ⊢
  clear hW1 hgl
  refine (drop_Entries.calls k (some ⟨gl, 0, none⟩) 2 lb23 none 0 [] false a W1 HL.out (by decide) (Kd.C_nil _ _) (Nat.le_refl _) HA.out).mono ?_
  rintro e_ W2 ⟨v1, rfl, ho1, hb1⟩
  obtain ⟨A1, c1, rfl⟩ := Kd.R_slice ho1
  have HB2 := Aside0.mk (below_step HB1.out hb1)
  replace HL := Aside0.mk (Kd.C_below HL.out hb1)
  clear ho1 hb1
  go_wp2_with (fail)
  refine (drop_Entries.calls k (some ⟨gl, 0, none⟩) 2 lb23 none 0 [] true b W2 HL.out (by decide) (Kd.C_nil _ _) (Nat.le_refl _) HB.out).mono ?_
  rintro e_ W3 ⟨v2, rfl, ho2, hb2⟩
  obtain ⟨A2, c2, rfl⟩ := Kd.R_slice ho2
  have HB3 := Aside0.mk (below_step HB2.out hb2)
  replace HL := Aside0.mk (Kd.C_below HL.out hb2)
  clear ho2 hb2
  go_wp2_with (fail)
  have hw4 : ∃ W4 : World, W4 = W3.alloc (Obj.cells #[Value.int IntKind.i64 2] 2) := ⟨_, rfl⟩
  obtain ⟨W4, hW4⟩ := hw4
  rw [← hW4]
  have hb4 : Below W3.heap.size W3 W4 := by rw [hW4]; exact below_alloc (Below.refl _ _) _
  have HS := Aside0.mk (show Kd.C (Kd.int .i64) W4 (some ⟨W3.heap.size, 0, none⟩) ([2] : List Int).length [2] from row_C (t := 2) ([2] : List Int) (fun x => [.int .i64 x]) (fun x _ => rfl) (by rw [hW4]; exact alloc_at0 W3 _ _ rfl) (by decide))
  have HB4 := Aside0.mk (below_step HB3.out hb4)
  replace HL := Aside0.mk (Kd.C_below HL.out hb4)
  obtain ⟨gs, hgs⟩ : ∃ g, g = W3.heap.size := ⟨_, rfl⟩
  rw [← hgs] at HS ⊢
  clear hW4 hgs hb4
  refine (drop_Entries.calls k (some ⟨gl, 0, none⟩) 2 lb23 (some ⟨gs, 0, none⟩) 1 [2] true c W4 HL.out (by decide) HS.out (by decide) HC.out).mono ?_
  rintro e_ W5 ⟨v4, rfl, ho4, hb4⟩
  obtain ⟨A4, c4, rfl⟩ := Kd.R_slice ho4
  have HB5 := Aside0.mk (below_step HB4.out hb4)
  replace HL := Aside0.mk (Kd.C_below HL.out hb4)
  clear ho4 hb4
  go_wp2_with (fail)
  refine (drop_Seen.calls k (some ⟨gl, 0, none⟩) 2 lb23 2 d W5 HL.out (by decide) HD.out).mono ?_
  rintro e_ W6 ⟨v5, rfl, ho5, hb5⟩
  obtain ⟨A5, c5, rfl⟩ := Kd.R_slice ho5
  have HB6 := Aside0.mk (below_step HB5.out hb5)
  replace HL := Aside0.mk (Kd.C_below HL.out hb5)
  clear ho5 hb5
  go_wp2_with (fail)
  refine (drop_Seen.calls k (some ⟨gl, 0, none⟩) 2 lb23 3 e W6 HL.out (by decide) HE.out).mono ?_
  rintro e_ W7 ⟨v6, rfl, ho6, hb6⟩
  obtain ⟨A6, c6, rfl⟩ := Kd.R_slice ho6
  have HB7 := Aside0.mk (below_step HB6.out hb6)
  replace HL := Aside0.mk (Kd.C_below HL.out hb6)
  clear ho6 hb6
  go_wp2_with (fail)
  refine (drop_Cut.calls k (some ⟨gl, 0, none⟩) 2 lb23 g W7 HL.out (by decide) HG.out).mono ?_
  rintro e_ W8 ⟨v7, rfl, ho7, hb7⟩
  obtain ⟨A7, c7, rfl⟩ := Kd.S_slice ho7
  have HB8 := Aside0.mk (below_step HB7.out hb7)
  replace HL := Aside0.mk (Kd.C_below HL.out hb7)
  clear ho7 hb7
  go_wp2_with (fail)
  go_ret
  exact ⟨rfl, HB8.out⟩
theorem incipitlaw23_begun.mono : ∀ k, LeO (incipitlaw23_begun.f k) (incipitlaw23_begun.f (k + 1)) := by
  intro k
  unfold incipitlaw23_begun.f
  exact LeO.bind (drop_Entries.mono _ _ _ _) fun _ => LeO.bind (drop_Entries.mono _ _ _ _) fun _ => LeO.bind (drop_Entries.mono _ _ _ _) fun _ => LeO.bind (drop_Seen.mono _ _ _) fun _ => LeO.bind (drop_Seen.mono _ _ _) fun _ => LeO.bind (drop_Cut.mono _ _) fun _ => LeO.refl _

/-! ### incipitlaw23_cut: function 28 -/
def incipitlaw23_cut.f (l0 : List Int) : Option (List Int) := if (l0.length : Int) > 12 then (if 12 ≤ (l0.length : Int) then (some (l0.take 12)) else (none)) else (some l0)
set_option maxHeartbeats 80000000 in
set_option maxRecDepth 100000 in
theorem incipitlaw23_cut.calls (P0_ : Nat → Prop) (A0 : Option Addr) (c0 : Nat) (l0 : List Int) (r : List Int) (w : World) (hs0 : Kd.V (Kd.int .i64) 2 w w.heap.size (fun k_ => P0_ k_) (.slice A0 l0.length c0) l0) (h : incipitlaw23_cut.f l0 = some r) :
    Calls Try.prog 28 #[.slice A0 l0.length c0] w fun e w' => ∃ v0_ : Value, e = .returned (v0_) ∧ Kd.V (Kd.int .i64) 2 w' w.heap.size (fun k_ => (P0_ k_ ∨ w.heap.size ≤ k_)) v0_ r ∧ Below w.heap.size w w' := by
  have HO0 := Aside0.mk (show Kd.V (Kd.int .i64) 2 w w.heap.size (fun k_ => (P0_ k_ ∨ w.heap.size ≤ k_)) (.slice A0 l0.length c0) l0 from Kd.V_mono hs0 (fun k_ hk => .inl hk))
  have HB := Aside0.mk (Below.refl w.heap.size w)
  have H : (if (l0.length : Int) > 12 then (if 12 ≤ (l0.length : Int) then (some (l0.take 12)) else (none)) else (some l0)) = some r := h
  clear h
  by_cases c2 : (l0.length : Int) > 12
  · rw [if_pos c2] at H
    have c2b0 : decide (12 < (l0.length : Int)) = true := decide_eq_true c2
    have c2b1 : decide (12 < l0.length) = true := decide_eq_true (by omega)
    clear c2
    by_cases c3 : 12 ≤ (l0.length : Int)
    · rw [if_pos c3] at H
      have c3b0 := eq_true c3
      have c3b1 : decide (12 ≤ (l0.length : Int)) = true := decide_eq_true c3
      clear c3
      obtain ⟨y195, hy195⟩ : ∃ y_ : List Int, y_ = (l0.take 12) := ⟨_, rfl⟩
      replace H : (some y195) = some r := by first | (rw [hy195]; with_reducible exact H) | (have H2_ := (Option.bind_some _ _).symm.trans H; rw [hy195]; with_reducible exact H2_) | (have H2_ := (Option.bind_some _ _).symm.trans H; with_reducible exact H2_) | with_reducible exact H | (rw [hy195]; exact H) | exact H
      have Ny195 := Aside0.mk hy195
      clear hy195
      obtain rfl := Option.some.inj H
      simp only [Option.some.injEq, Prod.mk.injEq] at H
      obtain ⟨rfl⟩ := H
      have q4 : (12 : Int) ≤ ((l0.length : Int) : Int) := of_decide_eq_true (by first | (with_reducible assumption) | assumption)
      obtain ⟨i04, hi04, _, hsz4, _⟩ := info_parts info2
      have hroom4 : l0.length ≤ c0 := (Kd.V_reads' HO0.out).2.1
      have hC4 : Kd.F (Kd.int .i64) _ _ A0 l0.length l0 := (Kd.V_at (base := w.heap.size) HO0.out).2.2
      have hcut4 := cut_to (P := Try.prog) 35 2 .i64 Try.underlying35 hi04 A0 l0.length c0 12 (by omega) q4 hroom4
      have hr4 := Kd.F_take (m := 12) hC4 (by omega)
      have hy4 : y195.length = (12 : Int).toNat := (by rw [Ny195.out, List.length_take]; omega)
      rw [← Ny195.out] at hr4
      rw [← hy4] at hcut4
      have HO199 := Aside0.mk (show Kd.V (Kd.int .i64) 2 _ w.heap.size _ (.slice A0 y195.length c0) y195 from Kd.V_mk (by omega) hr4)
      have HC199 := Aside0.mk (show y195.length ≤ c0 from by omega)
      clear hr4 hC4 hroom4 hi04 hsz4
      have KY4 := Aside0.mk hy4
      clear hy4
      replace q4 := eq_true q4
      go_enter Try.func28, Try.ntmps28
      go_wp2
      go_ret
      exact ⟨_, by first | rfl | (simp [errW_none, errW_some] <;> rfl) | (simp [*, errW_none, errW_some] <;> rfl), by (with_reducible repeat (first | apply Kd.V_alloc | apply Kd.V_drewN | apply Kd.V_drew)); exact HO199.out, by repeat (first | (with_reducible first | exact HB.out | apply below_alloc | apply pw_below_drewN | apply below_drew1) | exact HB.out)⟩
    · rw [if_neg c3] at H
      exact absurd H (by simp)
  · rw [if_neg c2] at H
    have c2b0 : decide (12 < (l0.length : Int)) = false := decide_eq_false c2
    have c2b1 : decide (12 < l0.length) = false := decide_eq_false (by omega)
    clear c2
    obtain rfl := Option.some.inj H
    simp only [Option.some.injEq, Prod.mk.injEq] at H
    obtain ⟨rfl⟩ := H
    go_enter Try.func28, Try.ntmps28
    go_wp2
    go_ret
    exact ⟨_, by first | rfl | (simp [errW_none, errW_some] <;> rfl) | (simp [*, errW_none, errW_some] <;> rfl), by (with_reducible repeat (first | apply Kd.V_alloc | apply Kd.V_drewN | apply Kd.V_drew)); exact HO0.out, by repeat (first | (with_reducible first | exact HB.out | apply below_alloc | apply pw_below_drewN | apply below_drew1) | exact HB.out)⟩

/-! ### incipitref12_Eq: function 20 -/
def incipitref12_Eq.f (a0_0 : ByteArray) (a0_1 : Int) (a0_2 : Int) (a0_3 : ByteArray) (a0_4 : ByteArray) (a1_0 : ByteArray) (a1_1 : Int) (a1_2 : Int) (a1_3 : ByteArray) (a1_4 : ByteArray) : Option (Bool) := if a0_0.toList = a1_0.toList then (if a0_1 = a1_1 then (if a0_2 = a1_2 then (if a0_3.toList = a1_3.toList then (some (a0_4.toList == a1_4.toList)) else (some false)) else (some false)) else (some false)) else (some false)
set_option maxHeartbeats 80000000 in
set_option maxRecDepth 100000 in
theorem incipitref12_Eq.calls (a0_0 : ByteArray) (a0_1 : Int) (a0_2 : Int) (a0_3 : ByteArray) (a0_4 : ByteArray) (a1_0 : ByteArray) (a1_1 : Int) (a1_2 : Int) (a1_3 : ByteArray) (a1_4 : ByteArray) (r : Bool) (w : World) (h : incipitref12_Eq.f a0_0 a0_1 a0_2 a0_3 a0_4 a1_0 a1_1 a1_2 a1_3 a1_4 = some r) :
    Calls Try.prog 20 #[.agg #[.string a0_0, .int .i64 a0_1, .int .i64 a0_2, .string a0_3, .string a0_4], .agg #[.string a1_0, .int .i64 a1_1, .int .i64 a1_2, .string a1_3, .string a1_4]] w fun e w' => e = .returned (.bool r) ∧ Below w.heap.size w w' := by
  have hu23 := Try.underlying23
  have HB := Aside0.mk (Below.refl w.heap.size w)
  have H : (if a0_0.toList = a1_0.toList then (if a0_1 = a1_1 then (if a0_2 = a1_2 then (if a0_3.toList = a1_3.toList then (some (a0_4.toList == a1_4.toList)) else (some false)) else (some false)) else (some false)) else (some false)) = some r := h
  clear h
  by_cases c3 : a0_0.toList = a1_0.toList
  · rw [if_pos c3] at H
    have c3b0 : (a0_0.toList == a1_0.toList) = true := beq_iff_eq.mpr c3
    have c3b1 : (a0_0.toList != a1_0.toList) = false := bne_eq_false_iff_eq.mpr c3
    clear c3
    by_cases c4 : a0_1 = a1_1
    · rw [if_pos c4] at H
      have c4b0 : (a0_1 == a1_1) = true := beq_iff_eq.mpr c4
      have c4b1 : (a0_1 != a1_1) = false := bne_eq_false_iff_eq.mpr c4
      clear c4
      by_cases c5 : a0_2 = a1_2
      · rw [if_pos c5] at H
        have c5b0 : (a0_2 == a1_2) = true := beq_iff_eq.mpr c5
        have c5b1 : (a0_2 != a1_2) = false := bne_eq_false_iff_eq.mpr c5
        clear c5
        by_cases c6 : a0_3.toList = a1_3.toList
        · rw [if_pos c6] at H
          have c6b0 : (a0_3.toList == a1_3.toList) = true := beq_iff_eq.mpr c6
          have c6b1 : (a0_3.toList != a1_3.toList) = false := bne_eq_false_iff_eq.mpr c6
          clear c6
          obtain rfl := Option.some.inj H
          simp only [Option.some.injEq, Prod.mk.injEq] at H
          obtain ⟨rfl⟩ := H
          go_enter Try.func20, Try.ntmps20
          go_wp2_with (first | ((with_reducible refine gate_dst (N := 2) rfl ?_); refine box_event ?hg (N := 2) ?hd (cs := #[.string a0_0, .int .i64 a0_1, .int .i64 a0_2, .string a0_3, .string a0_4]) (t := 23) ?hr ?_; (case hd => rfl); (case hg => rfl); (case hr => first | (go_simp; done) | (go_simp; rfl)); intro gb200 hg w7 hbox hb; have n0_ := Aside0.mk (below_step (by repeat (first | (with_reducible first | exact HB.out | apply below_alloc | apply pw_below_drewN | apply below_drew1) | exact HB.out)) hb); have n1_ := Aside0.mk (hbox); have n2_ := Aside0.mk ((by rw [hg]; exact (below_size (by repeat (first | (with_reducible first | exact HB.out | apply below_alloc | apply pw_below_drewN | apply below_drew1) | exact HB.out))) : w.heap.size ≤ gb200)); have n3_ := Aside0.mk ((by rw [hg]; exact (below_size (by repeat (first | (with_reducible first | exact HB.out | apply below_alloc | apply pw_below_drewN | apply below_drew1) | exact HB.out))) : w.heap.size ≤ gb200)); clear HB; have HB := n0_; have BK200 := n1_; have GW200 := n2_; have GE200 := n3_; clear n0_ n1_ n2_ n3_; clear hb hbox hg) | ((with_reducible refine gate_dst (N := 3) rfl ?_); refine box_event ?hg (N := 3) ?hd (cs := #[.string a1_0, .int .i64 a1_1, .int .i64 a1_2, .string a1_3, .string a1_4]) (t := 23) ?hr ?_; (case hd => rfl); (case hg => rfl); (case hr => first | (go_simp; done) | (go_simp; rfl)); intro gb201 hg w8 hbox hb; have n0_ := Aside0.mk (blk_below (g := gb200) (o := .cells #[.string a0_0, .int .i64 a0_1, .int .i64 a0_2, .string a0_3, .string a0_4] 23 (0, 0)) (by (with_reducible repeat (first | refine blk_drewN ?_ _ | refine blk_drew ?_ | refine blk_alloc ?_ _)); exact BK200.out) hb); have n1_ := Aside0.mk (below_step (by repeat (first | (with_reducible first | exact HB.out | apply below_alloc | apply pw_below_drewN | apply below_drew1 | refine below_set ?_ GE200.out) | exact HB.out)) hb); have n2_ := Aside0.mk (hbox); have n3_ := Aside0.mk ((by rw [hg]; exact (below_size (by repeat (first | (with_reducible first | exact HB.out | apply below_alloc | apply pw_below_drewN | apply below_drew1 | refine below_set ?_ GE200.out) | exact HB.out))) : w.heap.size ≤ gb201)); have n4_ := Aside0.mk ((by rw [hg]; exact (below_size (by repeat (first | (with_reducible first | exact HB.out | apply below_alloc | apply pw_below_drewN | apply below_drew1 | refine below_set ?_ GE200.out) | exact HB.out))) : w.heap.size ≤ gb201)); have n5_ := Aside0.mk ((by rw [hg]; exact Nat.ne_of_lt (blk_lt (g := gb200) (o := .cells #[.string a0_0, .int .i64 a0_1, .int .i64 a0_2, .string a0_3, .string a0_4] 23 (0, 0)) (by (with_reducible repeat (first | refine blk_drewN ?_ _ | refine blk_drew ?_ | refine blk_alloc ?_ _)); exact BK200.out)) : gb200 ≠ gb201)); have n6_ := Aside0.mk ((by rw [hg]; exact Nat.ne_of_gt (blk_lt (g := gb200) (o := .cells #[.string a0_0, .int .i64 a0_1, .int .i64 a0_2, .string a0_3, .string a0_4] 23 (0, 0)) (by (with_reducible repeat (first | refine blk_drewN ?_ _ | refine blk_drew ?_ | refine blk_alloc ?_ _)); exact BK200.out)) : gb201 ≠ gb200)); clear BK200; clear HB; have BK200 := n0_; have HB := n1_; have BK201 := n2_; have GW201 := n3_; have GE201 := n4_; have NB200_201 := n5_; have NB201_200 := n6_; clear n0_ n1_ n2_ n3_ n4_ n5_ n6_; clear hb hbox hg; have hnb9 := NB200_201.out; have hnc9 := NB201_200.out; have hcz10_0 : w8.cell? ⟨gb200, 0, none⟩ = some (.string a0_0) := (blk_cell BK200.out 0).trans rfl; have hcz10_1 : w8.cell? ⟨gb200, 1, none⟩ = some (.int .i64 a0_1) := (blk_cell BK200.out 1).trans rfl; have hcz10_2 : w8.cell? ⟨gb200, 2, none⟩ = some (.int .i64 a0_2) := (blk_cell BK200.out 2).trans rfl; have hcz10_3 : w8.cell? ⟨gb200, 3, none⟩ = some (.string a0_3) := (blk_cell BK200.out 3).trans rfl; have hcz10_4 : w8.cell? ⟨gb200, 4, none⟩ = some (.string a0_4) := (blk_cell BK200.out 4).trans rfl; have hfz10_0 := blk_frozen BK200.out 0; have hfz10_1 := blk_frozen BK200.out 1; have hfz10_2 := blk_frozen BK200.out 2; have hfz10_3 := blk_frozen BK200.out 3; have hfz10_4 := blk_frozen BK200.out 4; have hcz11_0 : w8.cell? ⟨gb201, 0, none⟩ = some (.string a1_0) := (blk_cell BK201.out 0).trans rfl; have hcz11_1 : w8.cell? ⟨gb201, 1, none⟩ = some (.int .i64 a1_1) := (blk_cell BK201.out 1).trans rfl; have hcz11_2 : w8.cell? ⟨gb201, 2, none⟩ = some (.int .i64 a1_2) := (blk_cell BK201.out 2).trans rfl; have hcz11_3 : w8.cell? ⟨gb201, 3, none⟩ = some (.string a1_3) := (blk_cell BK201.out 3).trans rfl; have hcz11_4 : w8.cell? ⟨gb201, 4, none⟩ = some (.string a1_4) := (blk_cell BK201.out 4).trans rfl; have hfz11_0 := blk_frozen BK201.out 0; have hfz11_1 := blk_frozen BK201.out 1; have hfz11_2 := blk_frozen BK201.out 2; have hfz11_3 := blk_frozen BK201.out 3; have hfz11_4 := blk_frozen BK201.out 4))
          go_ret
          exact ⟨by first | rfl | (simp [errW_none, errW_some] <;> rfl) | (simp [*, errW_none, errW_some] <;> rfl), by repeat (first | (with_reducible first | exact HB.out | apply below_alloc | apply pw_below_drewN | apply below_drew1 | refine below_set ?_ GE200.out | refine below_set ?_ GE201.out) | exact HB.out)⟩
        · rw [if_neg c6] at H
          have c6b0 : (a0_3.toList == a1_3.toList) = false := beq_eq_false_iff_ne.mpr c6
          have c6b1 : (a0_3.toList != a1_3.toList) = true := bne_iff_ne.mpr c6
          obtain rfl := Option.some.inj H
          simp only [Option.some.injEq, Prod.mk.injEq] at H
          obtain ⟨rfl⟩ := H
          go_enter Try.func20, Try.ntmps20
          go_wp2_with (first | ((with_reducible refine gate_dst (N := 2) rfl ?_); refine box_event ?hg (N := 2) ?hd (cs := #[.string a0_0, .int .i64 a0_1, .int .i64 a0_2, .string a0_3, .string a0_4]) (t := 23) ?hr ?_; (case hd => rfl); (case hg => rfl); (case hr => first | (go_simp; done) | (go_simp; rfl)); intro gb200 hg w12 hbox hb; have n0_ := Aside0.mk (below_step (by repeat (first | (with_reducible first | exact HB.out | apply below_alloc | apply pw_below_drewN | apply below_drew1) | exact HB.out)) hb); have n1_ := Aside0.mk (hbox); have n2_ := Aside0.mk ((by rw [hg]; exact (below_size (by repeat (first | (with_reducible first | exact HB.out | apply below_alloc | apply pw_below_drewN | apply below_drew1) | exact HB.out))) : w.heap.size ≤ gb200)); have n3_ := Aside0.mk ((by rw [hg]; exact (below_size (by repeat (first | (with_reducible first | exact HB.out | apply below_alloc | apply pw_below_drewN | apply below_drew1) | exact HB.out))) : w.heap.size ≤ gb200)); clear HB; have HB := n0_; have BK200 := n1_; have GW200 := n2_; have GE200 := n3_; clear n0_ n1_ n2_ n3_; clear hb hbox hg) | ((with_reducible refine gate_dst (N := 3) rfl ?_); refine box_event ?hg (N := 3) ?hd (cs := #[.string a1_0, .int .i64 a1_1, .int .i64 a1_2, .string a1_3, .string a1_4]) (t := 23) ?hr ?_; (case hd => rfl); (case hg => rfl); (case hr => first | (go_simp; done) | (go_simp; rfl)); intro gb201 hg w13 hbox hb; have n0_ := Aside0.mk (blk_below (g := gb200) (o := .cells #[.string a0_0, .int .i64 a0_1, .int .i64 a0_2, .string a0_3, .string a0_4] 23 (0, 0)) (by (with_reducible repeat (first | refine blk_drewN ?_ _ | refine blk_drew ?_ | refine blk_alloc ?_ _)); exact BK200.out) hb); have n1_ := Aside0.mk (below_step (by repeat (first | (with_reducible first | exact HB.out | apply below_alloc | apply pw_below_drewN | apply below_drew1 | refine below_set ?_ GE200.out) | exact HB.out)) hb); have n2_ := Aside0.mk (hbox); have n3_ := Aside0.mk ((by rw [hg]; exact (below_size (by repeat (first | (with_reducible first | exact HB.out | apply below_alloc | apply pw_below_drewN | apply below_drew1 | refine below_set ?_ GE200.out) | exact HB.out))) : w.heap.size ≤ gb201)); have n4_ := Aside0.mk ((by rw [hg]; exact (below_size (by repeat (first | (with_reducible first | exact HB.out | apply below_alloc | apply pw_below_drewN | apply below_drew1 | refine below_set ?_ GE200.out) | exact HB.out))) : w.heap.size ≤ gb201)); have n5_ := Aside0.mk ((by rw [hg]; exact Nat.ne_of_lt (blk_lt (g := gb200) (o := .cells #[.string a0_0, .int .i64 a0_1, .int .i64 a0_2, .string a0_3, .string a0_4] 23 (0, 0)) (by (with_reducible repeat (first | refine blk_drewN ?_ _ | refine blk_drew ?_ | refine blk_alloc ?_ _)); exact BK200.out)) : gb200 ≠ gb201)); have n6_ := Aside0.mk ((by rw [hg]; exact Nat.ne_of_gt (blk_lt (g := gb200) (o := .cells #[.string a0_0, .int .i64 a0_1, .int .i64 a0_2, .string a0_3, .string a0_4] 23 (0, 0)) (by (with_reducible repeat (first | refine blk_drewN ?_ _ | refine blk_drew ?_ | refine blk_alloc ?_ _)); exact BK200.out)) : gb201 ≠ gb200)); clear BK200; clear HB; have BK200 := n0_; have HB := n1_; have BK201 := n2_; have GW201 := n3_; have GE201 := n4_; have NB200_201 := n5_; have NB201_200 := n6_; clear n0_ n1_ n2_ n3_ n4_ n5_ n6_; clear hb hbox hg; have hnb14 := NB200_201.out; have hnc14 := NB201_200.out; have hcz15_0 : w13.cell? ⟨gb200, 0, none⟩ = some (.string a0_0) := (blk_cell BK200.out 0).trans rfl; have hcz15_1 : w13.cell? ⟨gb200, 1, none⟩ = some (.int .i64 a0_1) := (blk_cell BK200.out 1).trans rfl; have hcz15_2 : w13.cell? ⟨gb200, 2, none⟩ = some (.int .i64 a0_2) := (blk_cell BK200.out 2).trans rfl; have hcz15_3 : w13.cell? ⟨gb200, 3, none⟩ = some (.string a0_3) := (blk_cell BK200.out 3).trans rfl; have hcz15_4 : w13.cell? ⟨gb200, 4, none⟩ = some (.string a0_4) := (blk_cell BK200.out 4).trans rfl; have hfz15_0 := blk_frozen BK200.out 0; have hfz15_1 := blk_frozen BK200.out 1; have hfz15_2 := blk_frozen BK200.out 2; have hfz15_3 := blk_frozen BK200.out 3; have hfz15_4 := blk_frozen BK200.out 4; have hcz16_0 : w13.cell? ⟨gb201, 0, none⟩ = some (.string a1_0) := (blk_cell BK201.out 0).trans rfl; have hcz16_1 : w13.cell? ⟨gb201, 1, none⟩ = some (.int .i64 a1_1) := (blk_cell BK201.out 1).trans rfl; have hcz16_2 : w13.cell? ⟨gb201, 2, none⟩ = some (.int .i64 a1_2) := (blk_cell BK201.out 2).trans rfl; have hcz16_3 : w13.cell? ⟨gb201, 3, none⟩ = some (.string a1_3) := (blk_cell BK201.out 3).trans rfl; have hcz16_4 : w13.cell? ⟨gb201, 4, none⟩ = some (.string a1_4) := (blk_cell BK201.out 4).trans rfl; have hfz16_0 := blk_frozen BK201.out 0; have hfz16_1 := blk_frozen BK201.out 1; have hfz16_2 := blk_frozen BK201.out 2; have hfz16_3 := blk_frozen BK201.out 3; have hfz16_4 := blk_frozen BK201.out 4))
          go_ret
          exact ⟨by first | rfl | (simp [errW_none, errW_some] <;> rfl) | (simp [*, errW_none, errW_some] <;> rfl), by repeat (first | (with_reducible first | exact HB.out | apply below_alloc | apply pw_below_drewN | apply below_drew1 | refine below_set ?_ GE200.out | refine below_set ?_ GE201.out) | exact HB.out)⟩
      · rw [if_neg c5] at H
        have c5b0 : (a0_2 == a1_2) = false := beq_eq_false_iff_ne.mpr c5
        have c5b1 : (a0_2 != a1_2) = true := bne_iff_ne.mpr c5
        obtain rfl := Option.some.inj H
        simp only [Option.some.injEq, Prod.mk.injEq] at H
        obtain ⟨rfl⟩ := H
        go_enter Try.func20, Try.ntmps20
        go_wp2_with (first | ((with_reducible refine gate_dst (N := 2) rfl ?_); refine box_event ?hg (N := 2) ?hd (cs := #[.string a0_0, .int .i64 a0_1, .int .i64 a0_2, .string a0_3, .string a0_4]) (t := 23) ?hr ?_; (case hd => rfl); (case hg => rfl); (case hr => first | (go_simp; done) | (go_simp; rfl)); intro gb200 hg w17 hbox hb; have n0_ := Aside0.mk (below_step (by repeat (first | (with_reducible first | exact HB.out | apply below_alloc | apply pw_below_drewN | apply below_drew1) | exact HB.out)) hb); have n1_ := Aside0.mk (hbox); have n2_ := Aside0.mk ((by rw [hg]; exact (below_size (by repeat (first | (with_reducible first | exact HB.out | apply below_alloc | apply pw_below_drewN | apply below_drew1) | exact HB.out))) : w.heap.size ≤ gb200)); have n3_ := Aside0.mk ((by rw [hg]; exact (below_size (by repeat (first | (with_reducible first | exact HB.out | apply below_alloc | apply pw_below_drewN | apply below_drew1) | exact HB.out))) : w.heap.size ≤ gb200)); clear HB; have HB := n0_; have BK200 := n1_; have GW200 := n2_; have GE200 := n3_; clear n0_ n1_ n2_ n3_; clear hb hbox hg) | ((with_reducible refine gate_dst (N := 3) rfl ?_); refine box_event ?hg (N := 3) ?hd (cs := #[.string a1_0, .int .i64 a1_1, .int .i64 a1_2, .string a1_3, .string a1_4]) (t := 23) ?hr ?_; (case hd => rfl); (case hg => rfl); (case hr => first | (go_simp; done) | (go_simp; rfl)); intro gb201 hg w18 hbox hb; have n0_ := Aside0.mk (blk_below (g := gb200) (o := .cells #[.string a0_0, .int .i64 a0_1, .int .i64 a0_2, .string a0_3, .string a0_4] 23 (0, 0)) (by (with_reducible repeat (first | refine blk_drewN ?_ _ | refine blk_drew ?_ | refine blk_alloc ?_ _)); exact BK200.out) hb); have n1_ := Aside0.mk (below_step (by repeat (first | (with_reducible first | exact HB.out | apply below_alloc | apply pw_below_drewN | apply below_drew1 | refine below_set ?_ GE200.out) | exact HB.out)) hb); have n2_ := Aside0.mk (hbox); have n3_ := Aside0.mk ((by rw [hg]; exact (below_size (by repeat (first | (with_reducible first | exact HB.out | apply below_alloc | apply pw_below_drewN | apply below_drew1 | refine below_set ?_ GE200.out) | exact HB.out))) : w.heap.size ≤ gb201)); have n4_ := Aside0.mk ((by rw [hg]; exact (below_size (by repeat (first | (with_reducible first | exact HB.out | apply below_alloc | apply pw_below_drewN | apply below_drew1 | refine below_set ?_ GE200.out) | exact HB.out))) : w.heap.size ≤ gb201)); have n5_ := Aside0.mk ((by rw [hg]; exact Nat.ne_of_lt (blk_lt (g := gb200) (o := .cells #[.string a0_0, .int .i64 a0_1, .int .i64 a0_2, .string a0_3, .string a0_4] 23 (0, 0)) (by (with_reducible repeat (first | refine blk_drewN ?_ _ | refine blk_drew ?_ | refine blk_alloc ?_ _)); exact BK200.out)) : gb200 ≠ gb201)); have n6_ := Aside0.mk ((by rw [hg]; exact Nat.ne_of_gt (blk_lt (g := gb200) (o := .cells #[.string a0_0, .int .i64 a0_1, .int .i64 a0_2, .string a0_3, .string a0_4] 23 (0, 0)) (by (with_reducible repeat (first | refine blk_drewN ?_ _ | refine blk_drew ?_ | refine blk_alloc ?_ _)); exact BK200.out)) : gb201 ≠ gb200)); clear BK200; clear HB; have BK200 := n0_; have HB := n1_; have BK201 := n2_; have GW201 := n3_; have GE201 := n4_; have NB200_201 := n5_; have NB201_200 := n6_; clear n0_ n1_ n2_ n3_ n4_ n5_ n6_; clear hb hbox hg; have hnb19 := NB200_201.out; have hnc19 := NB201_200.out; have hcz20_0 : w18.cell? ⟨gb200, 0, none⟩ = some (.string a0_0) := (blk_cell BK200.out 0).trans rfl; have hcz20_1 : w18.cell? ⟨gb200, 1, none⟩ = some (.int .i64 a0_1) := (blk_cell BK200.out 1).trans rfl; have hcz20_2 : w18.cell? ⟨gb200, 2, none⟩ = some (.int .i64 a0_2) := (blk_cell BK200.out 2).trans rfl; have hcz20_3 : w18.cell? ⟨gb200, 3, none⟩ = some (.string a0_3) := (blk_cell BK200.out 3).trans rfl; have hcz20_4 : w18.cell? ⟨gb200, 4, none⟩ = some (.string a0_4) := (blk_cell BK200.out 4).trans rfl; have hfz20_0 := blk_frozen BK200.out 0; have hfz20_1 := blk_frozen BK200.out 1; have hfz20_2 := blk_frozen BK200.out 2; have hfz20_3 := blk_frozen BK200.out 3; have hfz20_4 := blk_frozen BK200.out 4; have hcz21_0 : w18.cell? ⟨gb201, 0, none⟩ = some (.string a1_0) := (blk_cell BK201.out 0).trans rfl; have hcz21_1 : w18.cell? ⟨gb201, 1, none⟩ = some (.int .i64 a1_1) := (blk_cell BK201.out 1).trans rfl; have hcz21_2 : w18.cell? ⟨gb201, 2, none⟩ = some (.int .i64 a1_2) := (blk_cell BK201.out 2).trans rfl; have hcz21_3 : w18.cell? ⟨gb201, 3, none⟩ = some (.string a1_3) := (blk_cell BK201.out 3).trans rfl; have hcz21_4 : w18.cell? ⟨gb201, 4, none⟩ = some (.string a1_4) := (blk_cell BK201.out 4).trans rfl; have hfz21_0 := blk_frozen BK201.out 0; have hfz21_1 := blk_frozen BK201.out 1; have hfz21_2 := blk_frozen BK201.out 2; have hfz21_3 := blk_frozen BK201.out 3; have hfz21_4 := blk_frozen BK201.out 4))
        go_ret
        exact ⟨by first | rfl | (simp [errW_none, errW_some] <;> rfl) | (simp [*, errW_none, errW_some] <;> rfl), by repeat (first | (with_reducible first | exact HB.out | apply below_alloc | apply pw_below_drewN | apply below_drew1 | refine below_set ?_ GE200.out | refine below_set ?_ GE201.out) | exact HB.out)⟩
    · rw [if_neg c4] at H
      have c4b0 : (a0_1 == a1_1) = false := beq_eq_false_iff_ne.mpr c4
      have c4b1 : (a0_1 != a1_1) = true := bne_iff_ne.mpr c4
      obtain rfl := Option.some.inj H
      simp only [Option.some.injEq, Prod.mk.injEq] at H
      obtain ⟨rfl⟩ := H
      go_enter Try.func20, Try.ntmps20
      go_wp2_with (first | ((with_reducible refine gate_dst (N := 2) rfl ?_); refine box_event ?hg (N := 2) ?hd (cs := #[.string a0_0, .int .i64 a0_1, .int .i64 a0_2, .string a0_3, .string a0_4]) (t := 23) ?hr ?_; (case hd => rfl); (case hg => rfl); (case hr => first | (go_simp; done) | (go_simp; rfl)); intro gb200 hg w22 hbox hb; have n0_ := Aside0.mk (below_step (by repeat (first | (with_reducible first | exact HB.out | apply below_alloc | apply pw_below_drewN | apply below_drew1) | exact HB.out)) hb); have n1_ := Aside0.mk (hbox); have n2_ := Aside0.mk ((by rw [hg]; exact (below_size (by repeat (first | (with_reducible first | exact HB.out | apply below_alloc | apply pw_below_drewN | apply below_drew1) | exact HB.out))) : w.heap.size ≤ gb200)); have n3_ := Aside0.mk ((by rw [hg]; exact (below_size (by repeat (first | (with_reducible first | exact HB.out | apply below_alloc | apply pw_below_drewN | apply below_drew1) | exact HB.out))) : w.heap.size ≤ gb200)); clear HB; have HB := n0_; have BK200 := n1_; have GW200 := n2_; have GE200 := n3_; clear n0_ n1_ n2_ n3_; clear hb hbox hg) | ((with_reducible refine gate_dst (N := 3) rfl ?_); refine box_event ?hg (N := 3) ?hd (cs := #[.string a1_0, .int .i64 a1_1, .int .i64 a1_2, .string a1_3, .string a1_4]) (t := 23) ?hr ?_; (case hd => rfl); (case hg => rfl); (case hr => first | (go_simp; done) | (go_simp; rfl)); intro gb201 hg w23 hbox hb; have n0_ := Aside0.mk (blk_below (g := gb200) (o := .cells #[.string a0_0, .int .i64 a0_1, .int .i64 a0_2, .string a0_3, .string a0_4] 23 (0, 0)) (by (with_reducible repeat (first | refine blk_drewN ?_ _ | refine blk_drew ?_ | refine blk_alloc ?_ _)); exact BK200.out) hb); have n1_ := Aside0.mk (below_step (by repeat (first | (with_reducible first | exact HB.out | apply below_alloc | apply pw_below_drewN | apply below_drew1 | refine below_set ?_ GE200.out) | exact HB.out)) hb); have n2_ := Aside0.mk (hbox); have n3_ := Aside0.mk ((by rw [hg]; exact (below_size (by repeat (first | (with_reducible first | exact HB.out | apply below_alloc | apply pw_below_drewN | apply below_drew1 | refine below_set ?_ GE200.out) | exact HB.out))) : w.heap.size ≤ gb201)); have n4_ := Aside0.mk ((by rw [hg]; exact (below_size (by repeat (first | (with_reducible first | exact HB.out | apply below_alloc | apply pw_below_drewN | apply below_drew1 | refine below_set ?_ GE200.out) | exact HB.out))) : w.heap.size ≤ gb201)); have n5_ := Aside0.mk ((by rw [hg]; exact Nat.ne_of_lt (blk_lt (g := gb200) (o := .cells #[.string a0_0, .int .i64 a0_1, .int .i64 a0_2, .string a0_3, .string a0_4] 23 (0, 0)) (by (with_reducible repeat (first | refine blk_drewN ?_ _ | refine blk_drew ?_ | refine blk_alloc ?_ _)); exact BK200.out)) : gb200 ≠ gb201)); have n6_ := Aside0.mk ((by rw [hg]; exact Nat.ne_of_gt (blk_lt (g := gb200) (o := .cells #[.string a0_0, .int .i64 a0_1, .int .i64 a0_2, .string a0_3, .string a0_4] 23 (0, 0)) (by (with_reducible repeat (first | refine blk_drewN ?_ _ | refine blk_drew ?_ | refine blk_alloc ?_ _)); exact BK200.out)) : gb201 ≠ gb200)); clear BK200; clear HB; have BK200 := n0_; have HB := n1_; have BK201 := n2_; have GW201 := n3_; have GE201 := n4_; have NB200_201 := n5_; have NB201_200 := n6_; clear n0_ n1_ n2_ n3_ n4_ n5_ n6_; clear hb hbox hg; have hnb24 := NB200_201.out; have hnc24 := NB201_200.out; have hcz25_0 : w23.cell? ⟨gb200, 0, none⟩ = some (.string a0_0) := (blk_cell BK200.out 0).trans rfl; have hcz25_1 : w23.cell? ⟨gb200, 1, none⟩ = some (.int .i64 a0_1) := (blk_cell BK200.out 1).trans rfl; have hcz25_2 : w23.cell? ⟨gb200, 2, none⟩ = some (.int .i64 a0_2) := (blk_cell BK200.out 2).trans rfl; have hcz25_3 : w23.cell? ⟨gb200, 3, none⟩ = some (.string a0_3) := (blk_cell BK200.out 3).trans rfl; have hcz25_4 : w23.cell? ⟨gb200, 4, none⟩ = some (.string a0_4) := (blk_cell BK200.out 4).trans rfl; have hfz25_0 := blk_frozen BK200.out 0; have hfz25_1 := blk_frozen BK200.out 1; have hfz25_2 := blk_frozen BK200.out 2; have hfz25_3 := blk_frozen BK200.out 3; have hfz25_4 := blk_frozen BK200.out 4; have hcz26_0 : w23.cell? ⟨gb201, 0, none⟩ = some (.string a1_0) := (blk_cell BK201.out 0).trans rfl; have hcz26_1 : w23.cell? ⟨gb201, 1, none⟩ = some (.int .i64 a1_1) := (blk_cell BK201.out 1).trans rfl; have hcz26_2 : w23.cell? ⟨gb201, 2, none⟩ = some (.int .i64 a1_2) := (blk_cell BK201.out 2).trans rfl; have hcz26_3 : w23.cell? ⟨gb201, 3, none⟩ = some (.string a1_3) := (blk_cell BK201.out 3).trans rfl; have hcz26_4 : w23.cell? ⟨gb201, 4, none⟩ = some (.string a1_4) := (blk_cell BK201.out 4).trans rfl; have hfz26_0 := blk_frozen BK201.out 0; have hfz26_1 := blk_frozen BK201.out 1; have hfz26_2 := blk_frozen BK201.out 2; have hfz26_3 := blk_frozen BK201.out 3; have hfz26_4 := blk_frozen BK201.out 4))
      go_ret
      exact ⟨by first | rfl | (simp [errW_none, errW_some] <;> rfl) | (simp [*, errW_none, errW_some] <;> rfl), by repeat (first | (with_reducible first | exact HB.out | apply below_alloc | apply pw_below_drewN | apply below_drew1 | refine below_set ?_ GE200.out | refine below_set ?_ GE201.out) | exact HB.out)⟩
  · rw [if_neg c3] at H
    have c3b0 : (a0_0.toList == a1_0.toList) = false := beq_eq_false_iff_ne.mpr c3
    have c3b1 : (a0_0.toList != a1_0.toList) = true := bne_iff_ne.mpr c3
    obtain rfl := Option.some.inj H
    simp only [Option.some.injEq, Prod.mk.injEq] at H
    obtain ⟨rfl⟩ := H
    go_enter Try.func20, Try.ntmps20
    go_wp2_with (first | ((with_reducible refine gate_dst (N := 2) rfl ?_); refine box_event ?hg (N := 2) ?hd (cs := #[.string a0_0, .int .i64 a0_1, .int .i64 a0_2, .string a0_3, .string a0_4]) (t := 23) ?hr ?_; (case hd => rfl); (case hg => rfl); (case hr => first | (go_simp; done) | (go_simp; rfl)); intro gb200 hg w27 hbox hb; have n0_ := Aside0.mk (below_step (by repeat (first | (with_reducible first | exact HB.out | apply below_alloc | apply pw_below_drewN | apply below_drew1) | exact HB.out)) hb); have n1_ := Aside0.mk (hbox); have n2_ := Aside0.mk ((by rw [hg]; exact (below_size (by repeat (first | (with_reducible first | exact HB.out | apply below_alloc | apply pw_below_drewN | apply below_drew1) | exact HB.out))) : w.heap.size ≤ gb200)); have n3_ := Aside0.mk ((by rw [hg]; exact (below_size (by repeat (first | (with_reducible first | exact HB.out | apply below_alloc | apply pw_below_drewN | apply below_drew1) | exact HB.out))) : w.heap.size ≤ gb200)); clear HB; have HB := n0_; have BK200 := n1_; have GW200 := n2_; have GE200 := n3_; clear n0_ n1_ n2_ n3_; clear hb hbox hg) | ((with_reducible refine gate_dst (N := 3) rfl ?_); refine box_event ?hg (N := 3) ?hd (cs := #[.string a1_0, .int .i64 a1_1, .int .i64 a1_2, .string a1_3, .string a1_4]) (t := 23) ?hr ?_; (case hd => rfl); (case hg => rfl); (case hr => first | (go_simp; done) | (go_simp; rfl)); intro gb201 hg w28 hbox hb; have n0_ := Aside0.mk (blk_below (g := gb200) (o := .cells #[.string a0_0, .int .i64 a0_1, .int .i64 a0_2, .string a0_3, .string a0_4] 23 (0, 0)) (by (with_reducible repeat (first | refine blk_drewN ?_ _ | refine blk_drew ?_ | refine blk_alloc ?_ _)); exact BK200.out) hb); have n1_ := Aside0.mk (below_step (by repeat (first | (with_reducible first | exact HB.out | apply below_alloc | apply pw_below_drewN | apply below_drew1 | refine below_set ?_ GE200.out) | exact HB.out)) hb); have n2_ := Aside0.mk (hbox); have n3_ := Aside0.mk ((by rw [hg]; exact (below_size (by repeat (first | (with_reducible first | exact HB.out | apply below_alloc | apply pw_below_drewN | apply below_drew1 | refine below_set ?_ GE200.out) | exact HB.out))) : w.heap.size ≤ gb201)); have n4_ := Aside0.mk ((by rw [hg]; exact (below_size (by repeat (first | (with_reducible first | exact HB.out | apply below_alloc | apply pw_below_drewN | apply below_drew1 | refine below_set ?_ GE200.out) | exact HB.out))) : w.heap.size ≤ gb201)); have n5_ := Aside0.mk ((by rw [hg]; exact Nat.ne_of_lt (blk_lt (g := gb200) (o := .cells #[.string a0_0, .int .i64 a0_1, .int .i64 a0_2, .string a0_3, .string a0_4] 23 (0, 0)) (by (with_reducible repeat (first | refine blk_drewN ?_ _ | refine blk_drew ?_ | refine blk_alloc ?_ _)); exact BK200.out)) : gb200 ≠ gb201)); have n6_ := Aside0.mk ((by rw [hg]; exact Nat.ne_of_gt (blk_lt (g := gb200) (o := .cells #[.string a0_0, .int .i64 a0_1, .int .i64 a0_2, .string a0_3, .string a0_4] 23 (0, 0)) (by (with_reducible repeat (first | refine blk_drewN ?_ _ | refine blk_drew ?_ | refine blk_alloc ?_ _)); exact BK200.out)) : gb201 ≠ gb200)); clear BK200; clear HB; have BK200 := n0_; have HB := n1_; have BK201 := n2_; have GW201 := n3_; have GE201 := n4_; have NB200_201 := n5_; have NB201_200 := n6_; clear n0_ n1_ n2_ n3_ n4_ n5_ n6_; clear hb hbox hg; have hnb29 := NB200_201.out; have hnc29 := NB201_200.out; have hcz30_0 : w28.cell? ⟨gb200, 0, none⟩ = some (.string a0_0) := (blk_cell BK200.out 0).trans rfl; have hcz30_1 : w28.cell? ⟨gb200, 1, none⟩ = some (.int .i64 a0_1) := (blk_cell BK200.out 1).trans rfl; have hcz30_2 : w28.cell? ⟨gb200, 2, none⟩ = some (.int .i64 a0_2) := (blk_cell BK200.out 2).trans rfl; have hcz30_3 : w28.cell? ⟨gb200, 3, none⟩ = some (.string a0_3) := (blk_cell BK200.out 3).trans rfl; have hcz30_4 : w28.cell? ⟨gb200, 4, none⟩ = some (.string a0_4) := (blk_cell BK200.out 4).trans rfl; have hfz30_0 := blk_frozen BK200.out 0; have hfz30_1 := blk_frozen BK200.out 1; have hfz30_2 := blk_frozen BK200.out 2; have hfz30_3 := blk_frozen BK200.out 3; have hfz30_4 := blk_frozen BK200.out 4; have hcz31_0 : w28.cell? ⟨gb201, 0, none⟩ = some (.string a1_0) := (blk_cell BK201.out 0).trans rfl; have hcz31_1 : w28.cell? ⟨gb201, 1, none⟩ = some (.int .i64 a1_1) := (blk_cell BK201.out 1).trans rfl; have hcz31_2 : w28.cell? ⟨gb201, 2, none⟩ = some (.int .i64 a1_2) := (blk_cell BK201.out 2).trans rfl; have hcz31_3 : w28.cell? ⟨gb201, 3, none⟩ = some (.string a1_3) := (blk_cell BK201.out 3).trans rfl; have hcz31_4 : w28.cell? ⟨gb201, 4, none⟩ = some (.string a1_4) := (blk_cell BK201.out 4).trans rfl; have hfz31_0 := blk_frozen BK201.out 0; have hfz31_1 := blk_frozen BK201.out 1; have hfz31_2 := blk_frozen BK201.out 2; have hfz31_3 := blk_frozen BK201.out 3; have hfz31_4 := blk_frozen BK201.out 4))
    go_ret
    exact ⟨by first | rfl | (simp [errW_none, errW_some] <;> rfl) | (simp [*, errW_none, errW_some] <;> rfl), by repeat (first | (with_reducible first | exact HB.out | apply below_alloc | apply pw_below_drewN | apply below_drew1 | refine below_set ?_ GE200.out | refine below_set ?_ GE201.out) | exact HB.out)⟩

end Go.Proofs.Ytcijcfdllfaghaa.MDrp
