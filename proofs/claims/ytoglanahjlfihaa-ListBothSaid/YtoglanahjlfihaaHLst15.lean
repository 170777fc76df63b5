import Derived.Test.YtoglanahjlfihaaHLst14
namespace Go.Proofs.Ytoglanahjlfihaa.MLst
open Go.RowKit Go.Proofs.Ytoglanahjlfihaa.QLst Go.Proofs.YtoglanahjlfihaaW.PrintWords Go.Proofs.YtoglanahjlfihaaW.PrintLast Go.Proofs.YtoglanahjlfihaaW.PrintMore
set_option linter.unusedVariables false
set_option linter.unusedSimpArgs false
theorem LO.lt {w0 w : World} {g : Nat} {hd : Nd S30} {tl : List (Nd S30)} {hs : List Int} {size : Int} (h : LO w0 w g hd tl hs size) : g < w.heap.size ∧ ∀ y ∈ hd :: tl, y.n < w.heap.size := by
  obtain ⟨G, vh, hL, _⟩ := h
  exact ⟨blk_lt hL.blk, fun y hy => blk_lt (hL.nodes y hy).2⟩
theorem LO.base {w0 w : World} {g : Nat} {hd : Nd S30} {tl : List (Nd S30)} {hs : List Int} {size : Int} (h : LO w0 w g hd tl hs size) : Below w0.heap.size w0 w := by
  obtain ⟨G, vh, _, hB, _⟩ := h
  exact hB
theorem LO.foot {w0 w : World} {g : Nat} {hd : Nd S30} {tl : List (Nd S30)} {hs : List Int} {size : Int} (h : LO w0 w g hd tl hs size) {i : Nat} (hi : Foot g (hd :: tl) i) : ∃ cs t, w.heap[i]? = some (.cells cs t (0, 0)) ∧ (t = 90 ∨ t = 85) := by
  obtain ⟨G, vh, hL, _⟩ := h
  rcases hi with rfl | ⟨y, hy, rfl⟩
  · exact ⟨_, _, hL.blk, .inl rfl⟩
  · exact ⟨_, _, (hL.nodes y hy).2, .inr rfl⟩
/-- Two lists that share nothing. -/
def Two (gl : Nat) (l : List (Nd S30)) (gm : Nat) (m : List (Nd S30)) : Prop := gl ≠ gm ∧ ∀ y ∈ l, ∀ z ∈ m, y.n ≠ z.n
theorem LO.other {w0 w w' : World} {gl gm : Nat} {hdl hdm : Nd S30} {tl tm : List (Nd S30)} {hl hm : List Int} {sl sm : Int} (h1 : LO w0 w gl hdl tl hl sl) (h2 : LO w0 w gm hdm tm hm sm) (ht : Two gl (hdl :: tl) gm (hdm :: tm)) (hk : Kept w w' (Foot gl (hdl :: tl))) (hB : Below w0.heap.size w0 w') : LO w0 w' gm hdm tm hm sm := by
  obtain ⟨G1, vh1, hL1, _⟩ := h1
  obtain ⟨G2, vh2, hL2, _⟩ := id h2
  refine h2.kept hk hB (fun i hi => ?_)
  rcases hi with rfl | ⟨y, hy, rfl⟩
  · exact ⟨ht.1, fun z hz => blk_ne hL1.blk (hL2.nodes z hz).2 (by decide), _, _, hL1.blk, by decide, by decide⟩
  · exact ⟨fun e => (blk_ne (hL1.nodes y hy).2 hL2.blk (by decide)) e, fun z hz => ht.2 y hy z hz, _, _, (hL1.nodes y hy).2, by decide, by decide⟩
theorem Two.grow {w : World} {gl gm : Nat} {hdl : Nd S30} {tl tl' m : List (Nd S30)} (h : Two gl (hdl :: tl) gm m) (hn : ∀ y ∈ tl', y ∈ tl ∨ w.heap.size ≤ y.n) (hm : ∀ z ∈ m, z.n < w.heap.size) : Two gl (hdl :: tl') gm m := by
  refine ⟨h.1, fun y hy z hz => ?_⟩
  rcases List.mem_cons.1 hy with rfl | hy
  · exact h.2 _ List.mem_cons_self z hz
  · rcases hn y hy with h1 | h1
    · exact h.2 y (List.mem_cons_of_mem _ h1) z hz
    · have := hm z hz; omega
theorem Two.symm {gl gm : Nat} {l m : List (Nd S30)} (h : Two gl l gm m) : Two gm m gl l := ⟨fun e => h.1 e.symm, fun y hy z hz e => h.2 z hz y hy e.symm⟩
theorem info3b : (Try.prog.info? 3).map (fun i => (i.zero, i.size, i.bytes)) = some (some (.int .i64 0), 1, 8) := by kernel_rfl
theorem C_take25 {w : World} {A : Option Addr} {c m : Nat} {xs : List Int} (h : Kd.C (Kd.int .i64) w A xs.length xs) (hm : m ≤ xs.length) (hc : xs.length ≤ c) : (∀ W : World, (Instr.slice 25 (.slice A xs.length c) none (some (.int .i64 (m : Int))) none).run Try.prog W = .ok (.slice A m c) W) ∧ Kd.C (Kd.int .i64) w A m (xs.take m) := by
  obtain ⟨i0, hi0, _, hsz, _⟩ := info_parts info3b
  refine ⟨cut_to (P := Try.prog) 25 3 .i64 Try.underlying25 hi0 A xs.length c (m : Int) (by omega) (by omega) hc, ?_⟩
  have := Kd.C_take h hm
  rwa [List.length_take, Nat.min_eq_left hm] at this
set_option maxHeartbeats 8000000 in
set_option maxRecDepth 100000 in
theorem incipitlaw14_ListTowers.calls (A0 : Option Addr) (c0 : Nat) (L0 : List Int) (A1 : Option Addr) (c1 : Nat) (L1 : List Int) (A2 : Option Addr) (c2 : Nat) (E : List S30) (w : World) (hr0 : Kd.C (Kd.int .i64) w A0 L0.length L0) (hc0 : L0.length ≤ c0) (hr1 : Kd.C (Kd.int .i64) w A1 L1.length L1) (hc1 : L1.length ≤ c1) (hr2 : Kd.C k30 w A2 E.length E) (hc2 : E.length ≤ c2) (hE : ∀ x ∈ E, x.f2 ≤ maxK) : Calls Try.prog 4 #[.slice A0 L0.length c0, .slice A1 L1.length c1, .slice A2 E.length c2] w fun e w' => e = .returned (.bool true) ∧ Below w.heap.size w w' := by
  have HR0 := Aside0.mk hr0
  have HR1 := Aside0.mk hr1
  have HR2 := Aside0.mk hr2
  have HE := Aside0.mk hE
  clear hr0 hr1 hr2 hE
  go_enter Try.func4, Try.ntmps4
  go_upto_region 1 with (fail)
  go_cut [7] (fun s7 wc => s7 = .bool true ∧ Aside0 (Below w.heap.size w wc))
  case first =>
    go_wp2_with (fail)
    refine (incipitlaw14_begun.calls w).mono ?_
    rintro e w1 ⟨rfl, hb⟩
    have HB := Aside0.mk hb
    clear hb
    go_wp2_with (fail)
    go_meet
    case rel => exact ⟨rfl, HB⟩
  case rest =>
    obtain ⟨rfl, HB⟩ := hcut
    obtain ⟨wr, hwr⟩ : ∃ wr, wr = wc := ⟨_, rfl⟩
    subst hwr
    refine (by assumption : ∀ (a : Act) (w : World), Code.wp Try.prog (Code.seq (Code.seq (Code.region 2 _ _) _) _) _ a w → _) _ _ ?_
    refine wp_seq_k (fun K2 hK2 => ?_)
    have HK2 := Aside0.mk hK2
    clear hK2
    go_wp2_with (fail)
    refine HK2.out _ _ ?_
    clear HK2
    refine wp_seq_k (fun K3 hK3 => ?_)
    go_cut [0] (fun s0 wc => ∃ (c : Nat) (L : List Int), s0 = .slice A0 L.length c ∧ L.length ≤ c ∧ L.length ≤ 60 ∧ Aside0 (Kd.C (Kd.int .i64) w A0 L.length L) ∧ Aside0 (wr = wc))
    case first =>
      by_cases h60 : 60 < L0.length
      · have h60a : ((60 : Int) < (L0.length : Int)) = True := eq_true (by omega)
        have h60b : (60 < L0.length) = True := eq_true h60
        obtain ⟨hsl, hC⟩ := C_take25 HR0.out (m := 60) (by omega) hc0
        have HC := Aside0.mk hC
        have hsl2 : ∀ W : World, (Instr.slice 25 (.slice A0 L0.length c0) none (some (.int .i64 60)) none).run Try.prog W = .ok (.slice A0 60 c0) W := hsl
        have hlt : (L0.take 60).length = 60 := by rw [List.length_take]; omega
        clear hC hsl
        go_wp2_with (fail)
        go_meet
        case rel => exact ⟨c0, L0.take 60, by rw [hlt], by omega, by omega, ⟨by rw [hlt]; exact HC.out⟩, ⟨rfl⟩⟩
      · have h60a : ((60 : Int) < (L0.length : Int)) = False := eq_false (by omega)
        have h60b : (60 < L0.length) = False := eq_false h60
        go_wp2_with (fail)
        go_meet
        case rel => exact ⟨c0, L0, rfl, hc0, by omega, HR0, ⟨rfl⟩⟩
    case rest =>
    clear HR0 hc0
    obtain ⟨c0, L0, rfl, hc0, hL0, HR0, hww⟩ := hcut
    have hwe := hww.out
    subst hwe
    clear hww
    refine hK3 _ _ ?_
    clear hK3
    refine wp_seq_k (fun K4 hK4 => ?_)
    go_cut [1] (fun s1 wc => ∃ (c : Nat) (L : List Int), s1 = .slice A1 L.length c ∧ L.length ≤ c ∧ L.length ≤ 60 ∧ Aside0 (Kd.C (Kd.int .i64) w A1 L.length L) ∧ Aside0 (wr = wc))
    case first =>
      by_cases h60 : 60 < L1.length
      · have h60a : ((60 : Int) < (L1.length : Int)) = True := eq_true (by omega)
        have h60b : (60 < L1.length) = True := eq_true h60
        obtain ⟨hsl, hC⟩ := C_take25 HR1.out (m := 60) (by omega) hc1
        have HC := Aside0.mk hC
        have hsl2 : ∀ W : World, (Instr.slice 25 (.slice A1 L1.length c1) none (some (.int .i64 60)) none).run Try.prog W = .ok (.slice A1 60 c1) W := hsl
        have hlt : (L1.take 60).length = 60 := by rw [List.length_take]; omega
        clear hC hsl
        go_wp2_with (fail)
        go_meet
        case rel => exact ⟨c1, L1.take 60, by rw [hlt], by omega, by omega, ⟨by rw [hlt]; exact HC.out⟩, ⟨rfl⟩⟩
      · have h60a : ((60 : Int) < (L1.length : Int)) = False := eq_false (by omega)
        have h60b : (60 < L1.length) = False := eq_false h60
        go_wp2_with (fail)
        go_meet
        case rel => exact ⟨c1, L1, rfl, hc1, by omega, HR1, ⟨rfl⟩⟩
    case rest =>
    clear HR1 hc1
    obtain ⟨c1, L1, rfl, hc1, hL1, HR1, hww⟩ := hcut
    have hwe := hww.out
    subst hwe
    clear hww
    refine hK4 _ _ ?_
    clear hK4
    go_wp2_with (fail)
    refine (list_New.calls w wr A0 c0 L0 HB.out (Kd.C_below HR0.out HB.out) hc0 (by omega)).mono ?_
    rintro e w2 ⟨gl, hdl, rfl, hO, hb, hg, hn⟩
    have HOl := Aside0.mk hO
    have HB2 := Aside0.mk (below_step HB.out hb)
    clear hO hb hg hn HB
    go_wp2_with (fail)
    refine (list_New.calls w w2 A1 c1 L1 HB2.out (Kd.C_below HR1.out HB2.out) hc1 (by omega)).mono ?_
    rintro e w3 ⟨gm, hdm, rfl, hO, hb, hg, hn⟩
    have HOm := Aside0.mk hO
    have HOl3 := Aside0.mk (HOl.out.below hb)
    have HB3 := Aside0.mk (below_step HB2.out hb)
    have HT : Aside0 (Two gl [hdl] gm [hdm]) := ⟨by
      obtain ⟨h1, h2⟩ := HOl.out.lt
      refine ⟨by omega, fun y hy z hz => ?_⟩
      rw [List.mem_singleton.1 hz]
      have := h2 y hy
      omega⟩
    clear hO hb hg hn HB2 HOl
    obtain ⟨r, hr, hrl, hrs⟩ := CutAll_ev E HE.out 40 (by omega)
    obtain ⟨KC, hKC⟩ := hr
    have HKC := Aside0.mk (hKC KC (Nat.le_refl _))
    clear hKC
    go_wp2_with (fail)
    refine (incipitlaw7_CutAll.calls KC A2 c2 E 40 r w3 (Kd.C_below HR2.out HB3.out) hc2 HKC.out).mono ?_
    rintro e w4 ⟨v0, rfl, hR, hb⟩
    obtain ⟨A5, c5, e5⟩ := Kd.R_slice hR
    subst e5
    have HR := Aside0.mk hR
    have HOl4 := Aside0.mk (HOl3.out.below hb)
    have HOm4 := Aside0.mk (HOm.out.below hb)
    have HRS := Aside0.mk hrs
    clear hR hb HB3 HOl3 HOm hrs
    generalize w3.heap.size = bb at HR
    go_wp2_with (fail)
    go_loopg [10] r.length (fun kq s10 wr => ∃ (i : Nat) (tl tm : List (Nd S30)) (sl sm : Int), s10 = .int .i64 i ∧ i + kq = r.length ∧ Aside0 (tl.map Nd.e = putAll (r.take i)) ∧ Aside0 (tm.map Nd.e = putAll (r.reverse.take i)) ∧ Aside0 (LO w wr gl hdl tl L0 sl) ∧ Aside0 (LO w wr gm hdm tm L1 sm) ∧ Aside0 (Two gl (hdl :: tl) gm (hdm :: tm)) ∧ Aside0 (Kd.R k30 30 wr bb (fun _ => True) (.slice A5 r.length c5) r) ∧ Aside0 (0 ≤ sl ∧ sl ≤ (i : Int) * 1000 ∧ 0 ≤ sm ∧ sm ≤ (i : Int) * 1000))
    case atStart => exact ⟨0, [], [], 0, 0, rfl, by omega, ⟨rfl⟩, ⟨rfl⟩, HOl4, HOm4, HT, HR, ⟨by omega⟩⟩
    case round =>
      clear HOl4 HOm4 HT HR
      obtain ⟨i, tl, tm, sl, sm, rfl, hi, HEl, HEm, HOl, HOm, HT, HR, HS⟩ := hrel
      cases gk with
      | zero =>
        have hia : ((i : Int) < (r.length : Int)) = False := eq_false (by omega)
        have hib : (i < r.length) = False := eq_false (by omega)
        go_wp2_with (fail)
        have hin : i = r.length := by omega
        subst hin
        obtain ⟨fl1, fl2, _, fl4, _⟩ := putAll_facts r HRS.out
        have hel : tl.map Nd.e = putAll r := by have h_ := HEl.out; rw [List.take_length] at h_; exact h_
        have hem : tm.map Nd.e = putAll r.reverse := by have h_ := HEm.out; rw [show r.reverse.take r.length = r.reverse from by rw [← List.length_reverse, List.take_length]] at h_; exact h_
        have hll : tl.length = (putAll r).length := by rw [← hel, List.length_map]
        have hlm : tm.length = tl.length := by rw [hll, ← putAll_rev r HRS.out, ← hem, List.length_map]
        have htl40 : tl.length ≤ 40 := by omega
        have HSR := Aside0.mk fl1
        have HEL := Aside0.mk hel
        clear fl1 fl2 fl4 hel hem hll HEl HEm HT HS
        refine (list_All.calls w wr gl hdl tl L0 sl HOl.out (by omega)).mono ?_
        rintro e w5 ⟨v, rfl, hX, hb⟩
        obtain ⟨AX, cX, eX⟩ := Kd.R_slice hX
        rw [List.length_map] at eX
        subst eX
        have HX := Aside0.mk (Kd.R_reads' hX)
        have HOl5 := Aside0.mk (HOl.out.below hb)
        have HOm5 := Aside0.mk (HOm.out.below hb)
        have HR5 := Aside0.mk (Kd.R_reads' (Kd.R_below HR.out hb)).2
        clear hX hb HOl HOm HR
        go_wp2_with (fail)
        go_loopg [12] r.length (fun kq s12 wq => ∃ (i : Nat), s12 = .int .i64 i ∧ i + kq = r.length ∧ Aside0 (Below w5.heap.size w5 wq))
        case atStart => exact ⟨0, rfl, by omega, ⟨Below.refl _ _⟩⟩
        case round =>
          obtain ⟨i, rfl, hi2, HBq⟩ := hrel
          cases gk with
          | zero =>
            have hia : ((i : Int) < (r.length : Int)) = False := eq_false (by omega)
            have hib : (i < r.length) = False := eq_false (by omega)
            obtain ⟨KS, hKS⟩ := Sorted_ev (putAll r) HSR.out (by rw [← HEL.out, List.length_map]; omega)
            have HKS := Aside0.mk (hKS KS (Nat.le_refl _))
            clear hKS
            go_wp2_with (fail)
            have hq := incipitref12_Sorted.calls KS AX cX (tl.map Nd.e) true wr (Kd.C_below HX.out.2.2 HBq.out) (by rw [List.length_map]; exact HX.out.2.1) (by rw [HEL.out]; exact HKS.out)
            rw [List.length_map] at hq
            refine hq.mono ?_
            rintro e w7 ⟨rfl, hb⟩
            have HB7 := Aside0.mk (below_step HBq.out hb)
            clear hb hq
            go_wp2_with (fail)
            refine (list_Len.calls w w7 gl hdl tl L0 sl (HOl5.out.below HB7.out)).mono ?_
            rintro e w8 ⟨rfl, rfl⟩
            go_wp2_with (fail)
            refine (list_Len.calls w w8 gm hdm tm L1 sm (HOm5.out.below HB7.out)).mono ?_
            rintro e w9 ⟨rfl, rfl⟩
            rw [hlm]
            go_wp2_with (fail)
            go_ret
            exact ⟨rfl, below_step HOl5.out.base HB7.out⟩
          | succ k2 =>
            have hil : i < r.length := by omega
            have hia : ((i : Int) < (r.length : Int)) = True := eq_true (by omega)
            have hib : (i < r.length) = True := eq_true hil
            have hi0 : ((0 : Int) ≤ (i : Int)) = True := eq_true (by omega)
            obtain ⟨ad, e5, g0, g1, _⟩ := at_T30 HR5.out.2 (i : Int) (by omega) (by omega)
            subst e5
            rw [Int.toNat_natCast] at g0 g1
            rw [rd_nat30 r i hil] at g0 g1
            have hg0 := Aside0.mk g0
            replace g0 := pw_cell_below HBq.out g0
            replace g1 := pw_cell_below HBq.out g1
            obtain ⟨x, hgx, hx0⟩ := putAll_get r HRS.out r[i] (List.getElem_mem hil)
            have HC5 := Aside0.mk HR5.out.2
            generalize r[i] = y at *
            rw [← HEL.out] at hgx
            have HGX := Aside0.mk hgx
            have HX0 := Aside0.mk hx0
            clear hx0
            have HSR2 : Aside0 (Srt (tl.map Nd.e)) := ⟨by rw [HEL.out]; exact HSR.out⟩
            clear hgx
            have ga0 := pw_cell_below (below_alloc (Below.refl wr.heap.size wr) (Obj.cells #[.string ⟨#[]⟩, .int .i64 0, .int .i64 0, .string ⟨#[]⟩, .string ⟨#[]⟩] 30)) g0
            have ga1 := pw_cell_below (below_alloc (Below.refl wr.heap.size wr) (Obj.cells #[.string ⟨#[]⟩, .int .i64 0, .int .i64 0, .string ⟨#[]⟩, .string ⟨#[]⟩] 30)) g1
            go_upto_region 19 with (fail)
            go_cut [13, 14] (fun s13 s14 wd => ∃ gp, s13 = .pointer (some ⟨gp, 0, none⟩) ∧ s14 = .bool true ∧ Aside0 (Below w5.heap.size w5 wd) ∧ Aside0 (wd.heap[gp]? = some (.cells #[.string x.f0, .int .i64 x.f1, .int .i64 x.f2, .string x.f3, .string x.f4] 30 (0, 0))))
            case first =>
              go_region_law (first | (go_simp; go_at_call 18; (with_reducible refine (list_Get.calls w _ gl hdl tl L0 sl y.f0 y.f1 (HOl5.out.below (by first | exact below_drew1 HBq.out | exact below_drew1 (below_alloc HBq.out _))) HSR2.out).mono ?_); rintro e w7 ⟨rfl, hb⟩; rw [HGX.out]; rw [show resG (some x) = .tuple #[.agg #[.string x.f0, .int .i64 x.f1, .int .i64 x.f2, .string x.f3, .string x.f4], .bool true] from rfl]; have HB7 := Aside0.mk hb; (try (have hbx := blk_below (blk_drew (blk_new wr (Obj.cells #[.string ⟨#[]⟩, .int .i64 0, .int .i64 0, .string ⟨#[]⟩, .string ⟨#[]⟩] 30))) hb; obtain ⟨hz0, hz1, hz2, hz3, hz4⟩ := box_cells (e := zE) hbx; have hf0 := blk_frozen hbx 0; have hf1 := blk_frozen hbx 1; have hf2 := blk_frozen hbx 2; have hf3 := blk_frozen hbx 3; have hf4 := blk_frozen hbx 4; have HZX := Aside0.mk hbx; clear hbx)); clear hb))
              all_goals
                go_wp2_with (fail)
                go_meet
                case rel => first
                  | (have hzx := HZX.out; exact ⟨wr.heap.size, rfl, rfl, ⟨set5_below (below_step (below_drew1 (below_alloc HBq.out _)) HB7.out) HBq.out.size x⟩, ⟨set5_blk HZX.out x⟩⟩)
                  | exact ⟨w7.heap.size, rfl, rfl, ⟨below_alloc (below_step (below_drew1 HBq.out) HB7.out) _⟩, ⟨blk_new w7 _⟩⟩
            case rest =>
              clear g0 g1 ga0 ga1 HBq
              obtain ⟨gp, rfl, rfl, HBq, HXX⟩ := hcut
              obtain ⟨wx, hwx⟩ : ∃ wx, wx = wc := ⟨_, rfl⟩
              subst hwx
              have hp0 : wx.cell? ⟨gp, 0, none⟩ = some (.string y.f0) := by rw [blk_cell HXX.out 0, ← HX0.out]; rfl
              have g0 := pw_cell_below HBq.out hg0.out
              have hiw : IntKind.i64.wrap ((i : Int) + 1) = ((i + 1 : Nat) : Int) := by rw [IntKind.wrap_i64]; omega
              go_wp2_with (fail)
              go_quiet (fail)
              go_wp2_with (fail)
              go_roundg k2
              case measure => omega
              case rel => exact ⟨i + 1, rfl, by omega, ⟨pw_below_drewN HBq.out _⟩⟩
      | succ kk =>
        have hil : i < r.length := by omega
        have hia : ((i : Int) < (r.length : Int)) = True := eq_true (by omega)
        have hib : (i < r.length) = True := eq_true hil
        have hi0 : ((0 : Int) ≤ (i : Int)) = True := eq_true (by omega)
        obtain ⟨ad, e5, g0, g1, g2, g3, g4⟩ := at_T30 (Kd.R_reads' HR.out).2.2 (i : Int) (by omega) (by omega)
        subst e5
        rw [Int.toNat_natCast] at g0 g1 g2 g3 g4
        rw [rd_nat30 r i hil] at g0 g1 g2 g3 g4
        have htk : r.take (i + 1) = r.take i ++ [r[i]] := (List.take_succ_eq_append_getElem hil)
        have HTK := Aside0.mk htk
        have hym : r[i] ∈ r := List.getElem_mem hil
        have HY := Aside0.mk (HRS.out _ hym)
        generalize r[i] = y at *
        clear htk hym
        obtain ⟨s1, s2, s3, s4⟩ := HS.out
        obtain ⟨q1, q2, q3, q4⟩ := HY.out
        obtain ⟨fl1, fl2, _, fl4, _⟩ := putAll_facts (r.take i) (fun x hx => HRS.out x (List.mem_of_mem_take hx))
        rw [← HEl.out] at fl1 fl2 fl4
        rw [List.length_map, List.length_take] at fl4
        go_wp2_with (fail)
        refine (list_Put.calls w wr gl hdl tl L0 sl y HOl.out fl1 fl2 (by omega) (by omega) s1 (by omega) (by omega)).mono ?_
        rintro e w5 ⟨tl5, rfl, htl5, hO5, hk5, hn5⟩
        have HEl5 : Aside0 (tl5.map Nd.e = putAll (r.take (i + 1))) := ⟨by rw [HTK.out, putAll_snoc, ← HEl.out]; exact htl5⟩
        obtain ⟨sl5, hsl5⟩ : ∃ sl5, Aside0 (sl5 = if has (tl.map Nd.e) y.f0 y.f1 then sl else sl + (y.f0.size + y.f3.size + y.f4.size + 32)) := ⟨_, ⟨rfl⟩⟩
        have HS5 : Aside0 (0 ≤ sl5 ∧ sl5 ≤ ((i + 1 : Nat) : Int) * 1000) := ⟨by
          have := hsl5.out
          split at this <;> omega⟩
        rw [← hsl5.out] at hO5
        have HOl5 := Aside0.mk hO5
        have HOm5 := Aside0.mk (HOl.out.other HOm.out HT.out hk5 hO5.base)
        have HT5 : Aside0 (Two gl (hdl :: tl5) gm (hdm :: tm)) := ⟨HT.out.grow hn5 HOm.out.lt.2⟩
        have HR5 := Aside0.mk (rows30_kept HR.out hk5 (fun j hj => by
          obtain ⟨cs, t, h1, h2⟩ := HOl.out.foot hj
          exact ⟨cs, t, h1, by rcases h2 with rfl | rfl <;> decide⟩))
        clear htl5 hO5 hk5 hn5 HOl HOm HT HR HEl hsl5 fl1 fl2 fl4 q1 q2 q3 q4 g0 g1 g2 g3 g4 HY HTK s1 s2
        obtain ⟨j, hj⟩ : ∃ j, Aside0 (j = r.length - 1 - i) := ⟨_, ⟨rfl⟩⟩
        have hjl : j < r.length := by rw [hj.out]; omega
        have hjw : IntKind.i64.wrap ((r.length : Int) - 1) = (r.length : Int) - 1 := by rw [IntKind.wrap_i64]; omega
        have hjw2 : IntKind.i64.wrap ((r.length : Int) - 1 - (i : Int)) = (j : Int) := by rw [IntKind.wrap_i64]; have := hj.out; omega
        have hj0 : ((0 : Int) ≤ (j : Int)) = True := eq_true (by omega)
        have hj1 : ((j : Int) < (r.length : Int)) = True := eq_true (by omega)
        have hj2 : (j < r.length) = True := eq_true hjl
        obtain ⟨ad2, e6, g0, g1, g2, g3, g4⟩ := at_T30 (Kd.R_reads' HR5.out).2.2 (j : Int) (by omega) (by omega)
        injection e6 with e6
        subst e6
        rw [Int.toNat_natCast] at g0 g1 g2 g3 g4
        rw [rd_nat30 r j hjl] at g0 g1 g2 g3 g4
        have HTK : Aside0 (r.reverse.take (i + 1) = r.reverse.take i ++ [r[j]]) := ⟨by
          rw [List.take_succ_eq_append_getElem (show i < r.reverse.length by rw [List.length_reverse]; exact hil), List.getElem_reverse]
          congr 3
          rw [hj.out]⟩
        have HY := Aside0.mk (HRS.out _ (List.getElem_mem hjl))
        generalize r[j] = z at *
        obtain ⟨q1, q2, q3, q4⟩ := HY.out
        obtain ⟨fl1, fl2, _, fl4, _⟩ := putAll_facts (r.reverse.take i) (fun x hx => HRS.out x (List.mem_reverse.1 (List.mem_of_mem_take hx)))
        rw [← HEm.out] at fl1 fl2 fl4
        rw [List.length_map, List.length_take] at fl4
        go_wp2_with (fail)
        refine (list_Put.calls w w5 gm hdm tm L1 sm z HOm5.out fl1 fl2 (by omega) (by omega) s3 (by omega) (by omega)).mono ?_
        rintro e w6 ⟨tm6, rfl, htm6, hO6, hk6, hn6⟩
        have HEm6 : Aside0 (tm6.map Nd.e = putAll (r.reverse.take (i + 1))) := ⟨by rw [HTK.out, putAll_snoc, ← HEm.out]; exact htm6⟩
        obtain ⟨sm6, hsm6⟩ : ∃ sm6, Aside0 (sm6 = if has (tm.map Nd.e) z.f0 z.f1 then sm else sm + (z.f0.size + z.f3.size + z.f4.size + 32)) := ⟨_, ⟨rfl⟩⟩
        have HS6 : Aside0 (0 ≤ sm6 ∧ sm6 ≤ ((i + 1 : Nat) : Int) * 1000) := ⟨by
          have := hsm6.out
          split at this <;> omega⟩
        rw [← hsm6.out] at hO6
        have HOm6 := Aside0.mk hO6
        have HOl6 := Aside0.mk (HOm5.out.other HOl5.out HT5.out.symm hk6 hO6.base)
        have HT6 : Aside0 (Two gl (hdl :: tl5) gm (hdm :: tm6)) := ⟨(HT5.out.symm.grow hn6 HOl5.out.lt.2).symm⟩
        have HR6 := Aside0.mk (rows30_kept HR5.out hk6 (fun j hj => by
          obtain ⟨cs, t, h1, h2⟩ := HOm5.out.foot hj
          exact ⟨cs, t, h1, by rcases h2 with rfl | rfl <;> decide⟩))
        have hiw : IntKind.i64.wrap ((i : Int) + 1) = ((i + 1 : Nat) : Int) := by rw [IntKind.wrap_i64]; omega
        clear htm6 hO6 hk6 hn6 HOl5 HOm5 HT5 HR5 HEm hsm6 fl1 fl2 fl4 q1 q2 q3 q4 g0 g1 g2 g3 g4 HY HTK s3 s4 hj hjl hjw hjw2 hj0 hj1 hj2
        go_wp2_with (fail)
        go_roundg kk
        case measure => omega
        case rel => exact ⟨i + 1, tl5, tm6, sl5, sm6, rfl, by omega, HEl5, HEm6, HOl6, HOm6, HT6, HR6, ⟨HS5.out.1, HS5.out.2, HS6.out.1, HS6.out.2⟩⟩
end Go.Proofs.Ytoglanahjlfihaa.MLst
