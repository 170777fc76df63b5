import Derived.Test.YtenmljkddhonmaaHMrg19
import Derived.Laws.EntriesVeiled
namespace Go.Proofs.Ytenmljkddhonmaa.MMrg
open Go.RowKit Go.Proofs.Ytenmljkddhonmaa.QMrg Go.Proofs.YtenmljkddhonmaaW.PrintWords Go.Proofs.YtenmljkddhonmaaW.PrintLast Go.Proofs.YtenmljkddhonmaaW.PrintMore
set_option linter.unusedVariables false
set_option linter.unusedSimpArgs false
def nilV : Nat → Value := fun _ => .slice none 0 0
set_option maxHeartbeats 8000000 in
set_option maxRecDepth 100000 in
theorem incipitlaw18_MergeMany.calls (n0 : Int) (A : Option Addr) (c : Nat) (D : List Int) (w : World) (hr : Kd.C (Kd.int .i64) w A D.length D) (hc : D.length ≤ c) : Calls Try.prog 4 #[.int .i64 n0, .slice A D.length c] w fun e w' => e = .returned (.bool true) ∧ Below w.heap.size w w' := by
  by_cases hn : n0 < 0 ∨ n0 > 120 ∨ D.length = 0
  · clear hr hc
    go_enter Try.func4, Try.ntmps4
    go_wp2_with (fail)
    refine (incipitlaw18_begun.calls w).mono ?_
    rintro e w1 ⟨rfl, hb⟩
    by_cases h0 : n0 < 0
    · have h0b : (n0 < 0) = True := eq_true h0
      clear hn
      go_wp2_with (fail)
      go_ret
      exact ⟨rfl, hb⟩
    · have h0b : (n0 < 0) = False := eq_false h0
      by_cases h1 : 120 < n0
      · have h1b : (120 < n0) = True := eq_true h1
        clear hn
        go_wp2_with (fail)
        go_ret
        exact ⟨rfl, hb⟩
      · have h1b : (120 < n0) = False := eq_false h1
        have hD : D = [] := List.eq_nil_of_length_eq_zero (by omega)
        subst hD
        clear hn
        go_wp2_with (fail)
        go_ret
        exact ⟨rfl, hb⟩
  · obtain ⟨n, rfl⟩ : ∃ n : Nat, n0 = (n : Int) := ⟨n0.toNat, by omega⟩
    have hn20 : n ≤ 120 := by omega
    have hDp : 0 < D.length := by omega
    have hDm := hr.2.1
    have h0b : ((n : Int) < 0) = False := eq_false (by omega)
    have h1b : ((120 : Int) < (n : Int)) = False := eq_false (by omega)
    have h1c : (120 < n) = False := eq_false (by omega)
    have h2b : ((D.length : Int) == 0) = false := beq_eq_false_iff_ne.2 (by omega)
    have h2c : ((D.length : Int) = 0) = False := eq_false (by omega)
    have h2d : (D.length = 0) = False := eq_false (by omega)
    have h2e : (D = []) = False := eq_false (fun e => by subst e; exact absurd hDp (by decide))
    have HR := Aside0.mk hr
    have hmk := make6
    clear hn hr
    go_enter Try.func4, Try.ntmps4
    go_wp2_with (fail)
    refine (incipitlaw18_begun.calls w).mono ?_
    rintro e w1 ⟨rfl, hb⟩
    have HB := Aside0.mk hb
    clear hb
    go_upto_region 7 with (fail)
    have hsix : Six (w1.alloc (.cells six0 24)) w.heap.size w1.heap.size nilV (fun k => Lm D 0 k) := ⟨blk_new _ _, fun k _ => Kd.R_nil _ _ _ _ _, fun j k _ _ _ => ne_nil _⟩
    have HS := Aside0.mk hsix
    have HB1 := Aside0.mk (below_alloc HB.out (.cells six0 24))
    have hgl : w.heap.size ≤ w1.heap.size := below_size HB.out
    generalize w1.heap.size = gl at HS hgl ⊢
    generalize w1.alloc (.cells six0 24) = w2 at *
    clear hsix HB hmk
    go_wp2_with (fail)
    go_loopg [7] n (fun kq s7 wr => ∃ (i : Nat) (v : Nat → Value), s7 = .int .i64 i ∧ i + kq = n ∧ Aside0 (Six wr w.heap.size gl v (fun k => Lm D i k)) ∧ Aside0 (Below w.heap.size w wr))
    case atStart => exact ⟨0, nilV, rfl, by omega, HS, HB1⟩
    case round =>
      clear HS HB1
      obtain ⟨i, v, rfl, hi, HS, HB⟩ := hrel
      cases gk with
      | succ kk =>
        have hia : ((i : Int) < (n : Int)) = True := eq_true (by omega)
        have hib : (i < n) = True := eq_true (by omega)
        have hwD : IntKind.i64.wrap ((i : Int).tmod (D.length : Int)) = ((i % D.length : Nat) : Int) := by
          rw [Int.tmod_eq_emod_of_nonneg (by omega), IntKind.wrap_i64]
          have := Nat.mod_lt i hDp
          omega
        have hml : i % D.length < D.length := Nat.mod_lt i hDp
        obtain ⟨ad, rfl, hx⟩ := Kd.at_int HR.out ((i % D.length : Nat) : Int) (by omega) (by omega)
        rw [show (((i % D.length : Nat) : Int)).toNat = i % D.length by omega] at hx
        have hx2 := pw_cell_below HB.out hx
        have hrd : (rd D ((i % D.length : Nat) : Int)).tmod 6 = (D.getD (i % D.length) 0).tmod 6 := by
          unfold rd
          rw [show (((i % D.length : Nat) : Int)).toNat = i % D.length by omega]
        have hkl := kf_lt D i
        have hkf : kf D i = ((rd D ((i % D.length : Nat) : Int)).tmod 6).natAbs := by rw [hrd]; rfl
        have HKF := Aside0.mk hkf
        generalize rd D ((i % D.length : Nat) : Int) = d at hx2 HKF
        have hm0 : ((0 : Int) ≤ (i : Int) % (D.length : Int)) = True := eq_true (by omega)
        have hm1 : ((i : Int) % (D.length : Int) < (D.length : Int)) = True := eq_true (by omega)
        clear hx hrd hkf hml hwD
        have htm : -6 < d.tmod 6 ∧ d.tmod 6 < 6 := ⟨Int.lt_tmod_of_pos d (by decide), Int.tmod_lt_of_pos d (by decide)⟩
        have hw6 : IntKind.i64.wrap (d.tmod 6) = d.tmod 6 := by rw [IntKind.wrap_i64]; omega
        have HTM := Aside0.mk htm
        clear htm
        obtain ⟨wo, hwo⟩ : ∃ wo, wo = wr := ⟨_, rfl⟩
        subst hwo
        go_upto_region 10 with (fail)
        go_cut [8] (fun s8 wc => s8 = .int .i64 (d.tmod 6) ∧ Aside0 (wo = wc))
        case first =>
          go_wp2_with (fail)
          go_meet
          case rel => exact ⟨rfl, ⟨rfl⟩⟩
        case rest =>
        obtain ⟨rfl, hwo⟩ := hcut
        have hwe := hwo.out
        subst hwe
        clear hwo
        refine (by assumption : ∀ (a : Act) (w : World), Code.wp Try.prog (Code.seq (Code.seq (Code.region 11 _ _) _) _) _ a w → _) _ _ ?_
        refine wp_seq_k (fun K2 hK2 => ?_)
        have HK2 := Aside0.mk hK2
        clear hK2
        go_cut [8] (fun s8 wc => ∃ k : Nat, s8 = .int .i64 k ∧ k < 6 ∧ Aside0 (kf D i = k) ∧ wo = wc)
        case first =>
          by_cases hneg : d.tmod 6 < 0
          · have hna : (d.tmod 6 < 0) = True := eq_true hneg
            have hwn : IntKind.i64.wrap (-(d.tmod 6)) = -(d.tmod 6) := by have := HTM.out; rw [IntKind.wrap_i64]; omega
            have hkn : -(d.tmod 6) = ((kf D i : Nat) : Int) := by have := HKF.out; omega
            rw [hkn] at hwn
            have HKN := Aside0.mk hkn
            clear hkn hneg hw6
            go_wp2_with (fail)
            go_meet
            case rel => exact ⟨kf D i, by rw [HKN.out]; congr 1; unfold wrap64; have := kf_lt D i; omega, kf_lt D i, ⟨rfl⟩, rfl⟩
          · have hna : (d.tmod 6 < 0) = False := eq_false hneg
            have hkn : d.tmod 6 = ((kf D i : Nat) : Int) := by have := HKF.out; omega
            have HKN := Aside0.mk hkn
            clear hkn hneg hw6
            go_wp2_with (fail)
            go_meet
            case rel => exact ⟨kf D i, by rw [HKN.out], kf_lt D i, ⟨rfl⟩, rfl⟩
        case rest =>
          obtain ⟨k, rfl, hk6, HK, hwo⟩ := hcut
          subst hwo
          clear hx2 hm0 hm1 HKF HTM hw6
          refine HK2.out _ _ ?_
          clear HK2
          have hk0 : ((0 : Int) ≤ (k : Int)) = True := eq_true (by omega)
          have hk1 : ((k : Int) < 6) = True := eq_true (by omega)
          have hk2 : (k < 6) = True := eq_true hk6
          have hq1 : IntKind.i64.wrap ((i : Int) / 26) = (i : Int) / 26 := by rw [IntKind.wrap_i64]; omega
          have hq2 : IntKind.i64.wrap ((i : Int).tdiv 26) = (i : Int) / 26 := by rw [Int.tdiv_eq_ediv_of_nonneg (by omega), IntKind.wrap_i64]; omega
          have hq3 : IntKind.i64.wrap ((i : Int).tmod 26) = (i : Int) % 26 := by rw [Int.tmod_eq_emod_of_nonneg (by omega), IntKind.wrap_i64]; omega
          have hq4 : IntKind.i64.wrap (97 + (i : Int) / 26) = 97 + (i : Int) / 26 := by rw [IntKind.wrap_i64]; omega
          have hq5 : IntKind.i64.wrap (97 + (i : Int) % 26) = 97 + (i : Int) % 26 := by rw [IntKind.wrap_i64]; omega
          have hq6 : IntKind.u8.wrap (97 + (i : Int) / 26) = 97 + (i : Int) / 26 := by rw [IntKind.wrap_u8]; omega
          have hq7 : IntKind.u8.wrap (97 + (i : Int) % 26) = 97 + (i : Int) % 26 := by rw [IntKind.wrap_u8]; omega
          have hq8 : IntKind.i64.wrap ((i : Int) + 1) = ((i + 1 : Nat) : Int) := by rw [IntKind.wrap_i64]; omega
          have hq9 : IntKind.i64.wrap (97 + (i : Int).tmod 26) = 97 + (i : Int) % 26 := by rw [Int.tmod_eq_emod_of_nonneg (by omega), IntKind.wrap_i64]; omega
          obtain ⟨x0, f0⟩ := HS.out.cell hk6
          obtain ⟨Av, cv, ev⟩ := Kd.R_slice (HS.out.rows k hk6)
          obtain ⟨lk, hlk⟩ : ∃ lk, Aside0 (lk = (Lm D i k).length) := ⟨_, ⟨rfl⟩⟩
          rw [← hlk.out] at ev
          rw [ev] at x0
          have hrk := HS.out.rows k hk6
          rw [ev] at hrk
          have HRK := Aside0.mk hrk
          have HEV := Aside0.mk ev
          have hgl2 := blk_lt HS.out.blk
          have hconv := two_conv (i := i) (blk_drew (blk_new wo (Obj.cells #[Value.int IntKind.u8 (97 + (i : Int) / 26), Value.int IntKind.u8 (97 + (i : Int) % 26)] 5)))
          have hconv2 := two_conv (i := i) (blk_new wo.drew (Obj.cells #[Value.int IntKind.u8 (97 + (i : Int) / 26), Value.int IntKind.u8 (97 + (i : Int) % 26)] 5))
          have hszb : (wo.drew.alloc (Obj.cells #[Value.int IntKind.u8 (97 + (i : Int) / 26), Value.int IntKind.u8 (97 + (i : Int) % 26)] 5)).heap.size = wo.heap.size + 1 := Go.Deep.nblk_alloc _ _
          have HSZB := Aside0.mk hszb
          have HBW := Aside0.mk (below_alloc (below_drew (Below.refl wo.heap.size wo)) (Obj.cells #[Value.int IntKind.u8 (97 + (i : Int) / 26), Value.int IntKind.u8 (97 + (i : Int) % 26)] 5))
          have HBW2 := Aside0.mk (below_alloc (below_drew HB.out) (Obj.cells #[Value.int IntKind.u8 (97 + (i : Int) / 26), Value.int IntKind.u8 (97 + (i : Int) % 26)] 5))
          have hll := Lm_len D i k
          have HLL := Aside0.mk hll
          clear ev hrk hszb hll
          go_region_law (first
            | (refine Kd.R_append_step k28 (w0 := w) (W := wo.drew.alloc (Obj.cells #[Value.int IntKind.u8 (97 + (i : Int) / 26), Value.int IntKind.u8 (97 + (i : Int) % 26)] 5)) w.heap.size (by rfl) (.tmp 48) (.tmp 61) 24 28 (.agg #[.string ⟨#[]⟩, .int .i64 0, .int .i64 0, .string ⟨#[]⟩, .string ⟨#[]⟩]) 64 rfl Try.underlying24 info28 rfl (by decide) (by omega) (.slice Av lk cv) (Lm D i k) ⟨two i, (k : Int), 0, ⟨#[]⟩, ⟨#[]⟩⟩ [.string (two i), .int .i64 (k : Int), .int .i64 0, .string ⟨#[]⟩, .string ⟨#[]⟩] (fun _ => True) (fun _ => False) (by rfl) ?aX ?aP (fun k hk => hk.elim) ?aF ?aO ?aB ?aS ?aL ?_; (case aX => rw [HSZB.out]; rfl); (case aP => exact k28_mkM _ _ _ _); (case aF => exact (fun _ _ => trivial)); (case aO => exact Kd.R_below HRK.out HBW.out); (case aB => exact HBW2.out); (case aS => exact below_size HBW2.out); (case aL => have h1 := HLL.out; omega); intro v4 w4 ho hb4 hg4 hat4; obtain ⟨A4, c4_, e4⟩ := Kd.R_slice ho; obtain ⟨nl, hnl⟩ : ∃ nl, Aside0 (nl = (Lm D i k ++ [(⟨two i, (k : Int), 0, ⟨#[]⟩, ⟨#[]⟩⟩ : S28)]).length) := ⟨_, ⟨rfl⟩⟩; rw [← hnl.out] at e4; subst e4; have HO4 := Aside0.mk ho; have HG4 := Aside0.mk hg4; have HA4 := Aside0.mk hat4; have HB4 := Aside0.mk hb4; have hbk4 := blk_grown ((HS.out.below HBW.out).blk) hg4 (Kd.R_ne (Kd.R_below HRK.out HBW.out) (HS.out.below HBW.out).blk (by decide)); have x4 : w4.cell? ⟨gl, k, none⟩ = some (.slice Av lk cv) := (by rw [blk_cell hbk4, List.getElem?_toArray, List.getElem?_map, List.getElem?_range hk6, ← HEV.out]; rfl); have f4 := blk_frozen hbk4 k; clear ho hb4 hg4 hat4 hbk4))
          all_goals
            have HS5 := Aside0.mk (HS.out.put (x := ⟨two i, (k : Int), 0, ⟨#[]⟩, ⟨#[]⟩⟩) hk6 HBW.out (by rw [HEV.out]; exact HG4.out) (by rw [HEV.out]; exact HA4.out) HO4.out)
            have HB5 := Aside0.mk (below_set (j := k) (v := .slice A4 nl c4_) HB4.out hgl)
            clear HO4 HG4 HA4 HB4 x4 f4 x0 f0 hconv hconv2
            go_wp2_with (fail)
            go_roundg kk
            case measure => omega
            case rel => exact ⟨i + 1, _, rfl, by omega, ⟨by
              have h := HS5.out
              have e : (fun j => if j = k then Lm D i k ++ [(⟨two i, (k : Int), 0, ⟨#[]⟩, ⟨#[]⟩⟩ : S28)] else Lm D i j) = fun j => Lm D (i + 1) j := by
                funext j
                rw [Lm_succ, HK.out]
                have e2 : mE D i = ⟨two i, (k : Int), 0, ⟨#[]⟩, ⟨#[]⟩⟩ := by unfold mE; rw [HK.out]
                rw [e2]
                by_cases hj : j = k
                · rw [if_pos hj, if_pos hj, hj]
                · rw [if_neg hj, if_neg hj]
              rw [e] at h
              exact h⟩, HB5⟩
      | zero =>
        have hin : i = n := by omega
        subst hin
        have hia : ((i : Int) < (i : Int)) = False := eq_false (by omega)
        have hl6 : ((List.range 6).map (fun k => Lm D i k)).length = 6 := by simp
        have hcl := merge_All.calls wr (some ⟨gl, 0, none⟩) 6 ((List.range 6).map (fun k => Lm D i k)) (Zm D i) HS.out.rowsC (by rw [hl6]; decide) (fun x hx => by
          rw [hl6]
          obtain ⟨j, hj, rfl⟩ := List.mem_map.1 hx
          exact kf_lt D j) (Zm_pair D i hn20) (fun j hj => by
          rw [hl6] at hj
          rw [List.getD_eq_getElem?_getD, List.getElem?_map, List.getElem?_range hj]; rfl) (by rw [Zm_len]; omega)
        rw [hl6] at hcl
        have HCL := Aside0.mk hcl
        clear hl6 hcl
        go_wp2_with (fail)
        refine HCL.out.mono ?_
        rintro e w2 ⟨v2, rfl, hR, hb⟩
        obtain ⟨A2, c2, e2⟩ := Kd.R_slice hR
        have hzl : ((Zm D i).map Prod.fst).length = i := by rw [List.length_map, Zm_len]
        have hzn : ∀ j, j < i → (rd_T28 ((Zm D i).map Prod.fst) (j : Int)).f0 = two j := by
          intro j hj
          unfold rd_T28 Zm
          rw [List.map_map, show ((j : Int)).toNat = j by omega, List.getD_eq_getElem?_getD, List.getElem?_map, List.getElem?_range hj]; rfl
        rw [hzl] at e2
        subst e2
        have HC := Aside0.mk ((Kd.R_reads' hR).2.2)
        have HZL := Aside0.mk hzl
        have HZN := Aside0.mk hzn
        have HB2 := Aside0.mk (below_step HB.out hb)
        clear hzl hzn hR hb HB HS HCL
        go_wp2_with (fail)
        go_loopg [10] i (fun kq s10 wr => ∃ j : Nat, s10 = .int .i64 j ∧ j + kq = i ∧ Aside0 (Below w2.heap.size w2 wr))
        case atStart => exact ⟨0, rfl, by omega, ⟨Below.refl _ _⟩⟩
        case round =>
          obtain ⟨j, rfl, hj, HBj⟩ := hrel
          cases gk with
          | zero =>
            have hji : j = i := by omega
            subst hji
            go_wp2_with (fail)
            go_ret
            exact ⟨rfl, below_step HB2.out HBj.out⟩
          | succ kk =>
            have hjl : j < i := by omega
            have hjb : ((j : Int) < (i : Int)) = True := eq_true (by omega)
            have hjc : (j < i) = True := eq_true hjl
            have hj0 : ((0 : Int) ≤ (j : Int)) = True := eq_true (by omega)
            obtain ⟨ad2, rfl, x4, _, _, _, _⟩ := at_T28 (Kd.C_below HC.out HBj.out) (j : Int) (by omega) (by have := HZL.out; omega)
            rw [HZN.out j hjl, show ((j : Int)).toNat = j by omega] at x4
            have hblk : (ad2.add (j * 5)).block < wr.heap.size := World.block_lt_of_cell? _ _ x4
            have hq1 : IntKind.i64.wrap ((j : Int) / 26) = (j : Int) / 26 := by rw [IntKind.wrap_i64]; omega
            have hq2 : IntKind.i64.wrap ((j : Int).tdiv 26) = (j : Int) / 26 := by rw [Int.tdiv_eq_ediv_of_nonneg (by omega), IntKind.wrap_i64]; omega
            have hq3 : IntKind.i64.wrap ((j : Int).tmod 26) = (j : Int) % 26 := by rw [Int.tmod_eq_emod_of_nonneg (by omega), IntKind.wrap_i64]; omega
            have hq4 : IntKind.i64.wrap (97 + (j : Int) / 26) = 97 + (j : Int) / 26 := by rw [IntKind.wrap_i64]; omega
            have hq5 : IntKind.i64.wrap (97 + (j : Int) % 26) = 97 + (j : Int) % 26 := by rw [IntKind.wrap_i64]; omega
            have hq9 : IntKind.i64.wrap (97 + (j : Int).tmod 26) = 97 + (j : Int) % 26 := by rw [Int.tmod_eq_emod_of_nonneg (by omega), IntKind.wrap_i64]; omega
            have hq6 : IntKind.u8.wrap (97 + (j : Int) / 26) = 97 + (j : Int) / 26 := by rw [IntKind.wrap_u8]; omega
            have hq7 : IntKind.u8.wrap (97 + (j : Int) % 26) = 97 + (j : Int) % 26 := by rw [IntKind.wrap_u8]; omega
            have hw7 : IntKind.i64.wrap ((j : Int) + 1) = ((j + 1 : Nat) : Int) := by rw [IntKind.wrap_i64]; omega
            obtain ⟨wo, hwo⟩ : ∃ wo, wo = wr := ⟨_, rfl⟩
            subst hwo
            have hconv := two_conv (i := j) (blk_drew (blk_new wo (Obj.cells #[Value.int IntKind.u8 (97 + (j : Int) / 26), Value.int IntKind.u8 (97 + (j : Int) % 26)] 5)))
            have hconv2 := two_conv (i := j) (blk_new wo.drew (Obj.cells #[Value.int IntKind.u8 (97 + (j : Int) / 26), Value.int IntKind.u8 (97 + (j : Int) % 26)] 5))
            go_wp2_with (fail)
            go_region
            all_goals
              have HB5 := Aside0.mk (below_drew (below_alloc HBj.out (Obj.cells #[Value.int IntKind.u8 (97 + (j : Int) / 26), Value.int IntKind.u8 (97 + (j : Int) % 26)] 5)))
              generalize (wo.alloc (Obj.cells #[Value.int IntKind.u8 (97 + (j : Int) / 26), Value.int IntKind.u8 (97 + (j : Int) % 26)] 5)).drew = w5 at *
              clear hconv hconv2 x4 hblk
              go_wp2_with (fail)
              go_roundg kk
              case measure => omega
              case rel => exact ⟨j + 1, rfl, by omega, HB5⟩
end Go.Proofs.Ytenmljkddhonmaa.MMrg
