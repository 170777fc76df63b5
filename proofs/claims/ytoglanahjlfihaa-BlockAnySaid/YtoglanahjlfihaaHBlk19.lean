import Derived.Test.YtoglanahjlfihaaHBlk18

namespace Go.Proofs.Ytoglanahjlfihaa.MBlk
open Go.RowKit Go.Proofs.Ytoglanahjlfihaa.QBlk Go.Proofs.YtoglanahjlfihaaW.PrintWords Go.Proofs.YtoglanahjlfihaaW.PrintLast Go.Proofs.YtoglanahjlfihaaW.PrintMore
set_option linter.unusedVariables false
set_option linter.unusedSimpArgs false
theorem info70 : (Try.prog.info? 70).map (fun i => (i.zero, i.size, i.bytes)) = some (some (.agg #[.string ⟨#[]⟩, .string ⟨#[]⟩]), 2, 32) := by kernel_rfl
theorem cut_some (a : ByteArray) (n : Nat) : ∃ r, incipitlaw1_Cut.f a (n : Int) = some r ∧ r.size ≤ n := by
  unfold incipitlaw1_Cut.f
  by_cases h : (a.size : Int) > n
  · refine ⟨_, by rw [if_pos h, if_pos (by omega), if_pos (by omega)], ?_⟩
    rw [ByteArray.size_extract]
    omega
  · exact ⟨a, by rw [if_neg h], by omega⟩
theorem same_l0 (M : List S70) (hM : M.length < 1000000) (d : Nat) : ∀ i : Nat, M.length - i = d → i ≤ M.length → Ev (fun k => incipitlaw16_same.l0 k (M.map cv) M (i : Int)) true := by
  induction d with
  | zero =>
    intro i h hi
    refine Ev.succ ?_
    simp only [incipitlaw16_same.l0]
    exact Ev.ite_neg (by rw [List.length_map]; omega) (Ev.now _)
  | succ d ih =>
    intro i h hi
    refine Ev.succ ?_
    simp only [incipitlaw16_same.l0]
    have e : rd_T68 (M.map cv) (i : Int) = cv (rd_T70 M (i : Int)) := by
      unfold rd_T68 rd_T70
      rw [Int.toNat_natCast, List.getD_eq_getElem?_getD, List.getD_eq_getElem?_getD, List.getElem?_map, List.getElem?_eq_getElem (by omega)]
      rfl
    refine Ev.ite_pos (by rw [List.length_map]; omega) (Ev.ite_pos (by omega) (Ev.ite_pos (by omega) (Ev.ite_pos (by rw [e]; rfl) (Ev.ite_pos (by rw [e]; rfl) ?_))))
    rw [wrap64_id (by omega) (by omega)]
    exact ih (i + 1) (by omega) (by omega)
theorem same_ev (M : List S70) (hM : M.length < 1000000) : Ev (fun k => incipitlaw16_same.f k (M.map cv) M) true := by
  unfold incipitlaw16_same.f
  exact Ev.ite_pos (by rw [List.length_map]) (same_l0 M hM _ 0 rfl (by omega))
theorem BldS.over {w0 w w1 : World} {g : Nat} {s : St} {m m1 : List S70} {v v1 : Value} (h : BldS w0 w g s) (hm : Kd.R k70 70 w w0.heap.size (fun _ => True) v m) (hm1 : Kd.R k70 70 w1 w0.heap.size (fun _ => True) v1 m1) (hB : Below w0.heap.size w0 w1) (hg : w.grownBy w1 v.ownBlock) : BldS w0 w1 g s := by
  obtain ⟨h1, h2, vb, vp, h3, h4, h5, h6⟩ := h
  exact ⟨h1, hB, vb, vp, (hg.block g (blk_lt h3) (Kd.R_ne hm h3 (by decide))).trans h3, Kd.R_over h4 hm (by decide) hg, Kd.R_over h5 hm (by decide) hg, h6⟩
set_option maxHeartbeats 8000000 in
set_option maxRecDepth 100000 in
theorem incipitlaw16_BlockAll.calls (A0 : Option Addr) (c0 : Nat) (L : List S68) (key : ByteArray) (w : World) (hr0 : Kd.C k68 w A0 L.length L) (hc0 : L.length ≤ c0) : Calls Try.prog 9 #[.slice A0 L.length c0, .string key] w fun e w' => e = .returned (.bool true) ∧ Below w.heap.size w w' := by
  have HR := Aside0.mk hr0
  clear hr0
  go_enter Try.func9, Try.ntmps9
  go_wp2_with (fail)
  refine (incipitlaw16_begun.calls w).mono ?_
  rintro e w1 ⟨rfl, hb⟩
  have HB1 := Aside0.mk hb
  clear hb
  go_wp2_with (fail)
  refine (block_NewS.calls w w1 HB1.out).mono ?_
  rintro e w2 ⟨g, rfl, hI, hb, _⟩
  have HI : Aside0 (BldS w w2 g St0) := ⟨hI⟩
  clear hI hb HB1
  obtain ⟨nn, hnn⟩ : ∃ nn, Aside0 (nn = min L.length 40) := ⟨_, ⟨rfl⟩⟩
  have hnn1 : nn ≤ 40 := by have := hnn.out; omega
  have hnn2 : nn ≤ L.length := by have := hnn.out; omega
  go_upto_region 6 with (fail)
  go_cut [8] (fun s8 wc => s8 = .int .i64 0 ∧ Aside0 (BldS w wc g St0))
  case first =>
    go_wp2_with (fail)
    go_meet
    case rel => exact ⟨rfl, HI⟩
  case rest =>
  clear HI
  obtain ⟨rfl, HI⟩ := hcut
  obtain ⟨w2, hw2⟩ : ∃ w2, w2 = wc := ⟨_, rfl⟩
  subst hw2
  refine (by assumption : ∀ (a : Act) (w : World), Code.wp Try.prog (Code.block 0 _) _ a w → _) _ _ ?_
  go_cut [7, 8] (fun s7 s8 wr => ∃ (m : List S70) (s : St) (A7 : Option Addr) (c7 : Nat), s7 = .slice A7 m.length c7 ∧ m.length ≤ 40 ∧ Aside0 (∀ x ∈ m, x.f0.size ≤ 40 ∧ x.f1.size ≤ 40) ∧ Aside0 (Laid 80 (m.map cv) s) ∧ Aside0 (BldS w wr g s) ∧ Aside0 (Kd.R k70 70 wr w.heap.size (fun _ => True) (.slice A7 m.length c7) m))
  case first =>
   go_wp2_with (fail)
   go_loopg [7, 8] nn (fun kq s7 s8 wr => ∃ (i : Nat) (m : List S70) (s : St) (A7 : Option Addr) (c7 : Nat), s7 = .slice A7 m.length c7 ∧ s8 = .int .i64 i ∧ i + kq = nn ∧ m.length ≤ i ∧ (∀ x ∈ m, x.f0.size ≤ 40 ∧ x.f1.size ≤ 40) ∧ Aside0 (Laid 80 (m.map cv) s) ∧ Aside0 (BldS w wr g s) ∧ Aside0 (Kd.R k70 70 wr w.heap.size (fun _ => True) (.slice A7 m.length c7) m))
   case atStart => exact ⟨0, [], St0, none, 0, rfl, rfl, by omega, Nat.le_refl _, (fun x hx => absurd hx (by simp)), ⟨Laid.nil 80⟩, HI, ⟨Kd.R_nil _ _ _ _ _⟩⟩
   case round =>
    clear HI
    obtain ⟨i, m, s, A7, c7, rfl, rfl, hi, hml, hmf, HL, HI, HM⟩ := hrel
    have HMF := Aside0.mk hmf
    clear hmf
    have HBD : Aside0 (s.rows < 1000000000 ∧ s.last.size < 1000000 ∧ s.b.length ≤ 4400 ∧ s.p.length ≤ 160) := ⟨by
      have h1 := HL.out.rows
      have h2 := HL.out.bl
      have h3 := HL.out.pl
      have h4 := HL.out.last
      rw [List.length_map] at h1 h2 h3
      omega⟩
    cases gk with
    | zero =>
      have hm40 : m.length ≤ 40 := by omega
      by_cases hiL : i < L.length
      · have hit : ((i : Int) < (L.length : Int)) = True := eq_true (by omega)
        have hit2 : (i < L.length) = True := eq_true hiL
        have hi40 : ((i : Int) < 40) = False := eq_false (by have := hnn.out; omega)
        have hi41 : (i < 40) = False := eq_false (by have := hnn.out; omega)
        go_wp2_with (fail)
        go_meet
        case rel => exact ⟨m, s, A7, c7, rfl, hm40, HMF, HL, HI, HM⟩
      · have hit : ((i : Int) < (L.length : Int)) = False := eq_false (by omega)
        have hit2 : (i < L.length) = False := eq_false hiL
        go_wp2_with (fail)
        go_meet
        case rel => exact ⟨m, s, A7, c7, rfl, hm40, HMF, HL, HI, HM⟩
    | succ kk =>
      have hit : ((i : Int) < (L.length : Int)) = True := eq_true (by omega)
      have hit2 : (i < L.length) = True := eq_true (by omega)
      have hi40 : ((i : Int) < 40) = True := eq_true (by omega)
      have hi41 : (i < 40) = True := eq_true (by omega)
      have hi0 : ((0 : Int) ≤ (i : Int)) = True := eq_true (by omega)
      obtain ⟨ad, rfl, g0, g1⟩ := at_T68 (Kd.C_below HR.out HI.out.base) (i : Int) (by omega) (by omega)
      rw [Int.toNat_natCast] at g0
      simp only [Int.toNat_natCast] at g1
      generalize rd_T68 L (i : Int) = y at g0 g1
      obtain ⟨k, hk, hks⟩ := cut_some y.f0 40
      obtain ⟨v, hv, hvs⟩ := cut_some y.f1 40
      have HK : Aside0 (incipitlaw1_Cut.f y.f0 40 = some k) := ⟨hk⟩
      have HV : Aside0 (incipitlaw1_Cut.f y.f1 40 = some v) := ⟨hv⟩
      have hw64 : IntKind.i64.wrap ((i : Int) + 1) = ((i + 1 : Nat) : Int) := i64id (by omega)
      clear hk hv
      rcases List.eq_nil_or_concat m with hm | ⟨m0, z, hm⟩
      · have hab : Aside0 (addB s k = true) := ⟨by
          unfold addB
          have hr := HL.out.rows
          rw [hr, hm]; rfl⟩
        have HGT : Aside0 True := ⟨trivial⟩
        subst hm
        go_wp2_with (fail)
        go_region_law (first
          | (go_simp; go_at_call 39; (with_reducible refine (incipitlaw1_Cut.calls y.f0 40 k _ HK.out).mono ?_); rintro e w' ⟨rfl, hd⟩; obtain ⟨n, rfl⟩ := hd.out; clear hd)
          | (go_simp; go_at_call 39; (with_reducible refine (incipitlaw1_Cut.calls y.f1 40 v _ HV.out).mono ?_); rintro e w' ⟨rfl, hd⟩; obtain ⟨n2, rfl⟩ := hd.out; clear hd))
        all_goals
          go_wp2_with (fail)
          have hbd := HBD.out
          refine (block_Add.calls w (wr.drewN _) g s k v (HI.out.below (pw_below_drewN (Below.refl _ _) _)) hbd.1 hbd.2.1 (by omega) (by omega) (by omega) (by omega)).mono ?_
          rintro e w4 ⟨rfl, hI, hO⟩
          rw [hab.out, if_pos rfl] at hI
          rw [hab.out]
          obtain ⟨cs, hcs⟩ := HI.out.blk
          have HM4 := Aside0.mk (R_oth (Kd.R_drewN HM.out (1 + n + n2)) hO hcs (by decide))
          have HI4 := Aside0.mk hI
          have HL4 : Aside0 (Laid 80 (([] : List S70).map cv ++ [⟨k, v⟩]) (addT s k v)) := ⟨HL.out.step hab.out (by omega) (by omega) (by omega)⟩
          have hgt := HGT.out
          clear hI hO hcs HI HM HL g0 g1 hbd HGT
          go_wp2_with (first | ((with_reducible refine gate_builtin (b := .append) (xs := #[.tmp 65, .tmp 69]) rfl ?_); at_builtin; refine Kd.R_append k70 (w0 := w) (W := w4) w.heap.size rfl (.tmp 65) (.tmp 69) 65 70 (.agg #[.string ⟨#[]⟩, .string ⟨#[]⟩]) 32 rfl Try.underlying65 info70 rfl (by decide) (by omega) (.slice A7 0 c7) [] ⟨k, v⟩ [.string k, .string v] (fun _ => True) (fun _ => False) rfl rfl ?aP (fun k hk => hk.elim) ?aF ?aO ?aB ?aS ?aL ?_; (case aP => exact k70_mkM _ _ _ _); (case aF => exact (fun _ _ => trivial)); (case aO => exact HM4.out); (case aB => exact HI4.out.base); (case aS => exact below_size HI4.out.base); (case aL => omega); intro v5 w5 ho hb5 hg5 hat5; obtain ⟨A8, c8, e8⟩ := Kd.R_slice ho; subst e8; have HM5 := Aside0.mk ho; have HI5 : Aside0 (BldS w w5 g (addT s k v)) := ⟨BldS.over HI4.out HM4.out ho hb5 hg5⟩; clear ho hb5 hg5 hat5))
          go_roundg kk
          case measure => omega
          case rel => exact ⟨i + 1, ([] : List S70) ++ [⟨k, v⟩], addT s k v, A8, c8, by first | rfl | rw [List.length_append, List.length_singleton], rfl, by omega, by rw [List.length_append, List.length_singleton]; omega, (fun x hx => by rcases List.mem_append.1 hx with hx | hx; exact HMF.out x hx; rw [List.mem_singleton.1 hx]; exact ⟨hks, hvs⟩), ⟨by rw [List.map_append]; exact HL4.out⟩, HI5, HM5⟩
      · rw [List.concat_eq_append] at hm
        obtain ⟨q, hq⟩ : ∃ q, Aside0 (m.length = q + 1) := ⟨m0.length, ⟨by rw [hm, List.length_append, List.length_singleton]⟩⟩
        have hlast : s.last = z.f0 := by
          have h_ := HL.out.ts
          rw [hm, List.map_append, addTs_app] at h_
          rw [h_]; rfl
        have hzq : rd_T70 m (q : Int) = z := by
          unfold rd_T70
          have hq0 : q = m0.length := by have h_ := hq.out; rw [hm, List.length_append, List.length_singleton] at h_; omega
          rw [Int.toNat_natCast, hm, hq0, List.getD_eq_getElem?_getD, List.getElem?_append_right (Nat.le_refl _), Nat.sub_self]; rfl
        obtain ⟨ad7, e7, f0, _⟩ := at_T70 (Kd.R_reads' HM.out).2.2 (q : Int) (by omega) (by have := hq.out; omega)
        subst e7
        rw [Int.toNat_natCast, hzq] at f0
        have hwq : IntKind.i64.wrap ((m.length : Int) - 1) = (q : Int) := (i64id (by have := hq.out; omega)).trans (by have := hq.out; omega)
        have hq0 : ((0 : Int) ≤ (q : Int)) = True := eq_true (by omega)
        have hq1 : ((q : Int) < (m.length : Int)) = True := eq_true (by have := hq.out; omega)
        have hq2 : (q < m.length) = True := eq_true (by have := hq.out; omega)
        have hm0 : ((m.length : Int) == 0) = false := by rw [beq_eq_false_iff_ne]; have := hq.out; omega
        have hm1 : (m.length == 0) = false := by rw [beq_eq_false_iff_ne]; have := hq.out; omega
        have hm2 : ((m.length : Int) = 0) = False := eq_false (by have := hq.out; omega)
        have hm3 : (m.length = 0) = False := eq_false (by have := hq.out; omega)
        have hab0 : addB s k = Op.bytesLess s.last.toList k.toList := by
          unfold addB
          have hr := HL.out.rows
          rw [List.length_map, hq.out] at hr
          rw [hr]; rfl
        clear hm hzq
        by_cases hbl : Op.bytesLess s.last.toList k.toList = true
        · have hgt0 : binOp .gtr 9 (.string k) (.string z.f0) = pure (.bool true) := by rw [binOp_string_gtr_, ← hlast, hbl]
          have hab : Aside0 (addB s k = true) := ⟨hab0.trans hbl⟩
          have HGT : Aside0 True := ⟨trivial⟩
          clear hlast hab0 hbl
          go_wp2_with (fail)
          go_region_law (first
            | (go_simp; go_at_call 39; (with_reducible refine (incipitlaw1_Cut.calls y.f0 40 k _ HK.out).mono ?_); rintro e w' ⟨rfl, hd⟩; obtain ⟨n, rfl⟩ := hd.out; clear hd)
            | (go_simp; go_at_call 39; (with_reducible refine (incipitlaw1_Cut.calls y.f1 40 v _ HV.out).mono ?_); rintro e w' ⟨rfl, hd⟩; obtain ⟨n2, rfl⟩ := hd.out; clear hd))
          all_goals
            go_wp2_with (fail)
            have hbd := HBD.out
            refine (block_Add.calls w (wr.drewN _) g s k v (HI.out.below (pw_below_drewN (Below.refl _ _) _)) hbd.1 hbd.2.1 (by omega) (by omega) (by omega) (by omega)).mono ?_
            rintro e w4 ⟨rfl, hI, hO⟩
            rw [hab.out, if_pos rfl] at hI
            rw [hab.out]
            obtain ⟨cs, hcs⟩ := HI.out.blk
            have HM4 := Aside0.mk (R_oth (Kd.R_drewN HM.out (1 + n + n2)) hO hcs (by decide))
            have HI4 := Aside0.mk hI
            have HL4 : Aside0 (Laid 80 (m.map cv ++ [⟨k, v⟩]) (addT s k v)) := ⟨HL.out.step hab.out (by omega) (by omega) (by omega)⟩
            have hgt := HGT.out
            clear hI hO hcs HI HM HL g0 g1 hbd HGT
            go_wp2_with (first | ((with_reducible refine gate_builtin (b := .append) (xs := #[.tmp 65, .tmp 69]) rfl ?_); at_builtin; refine Kd.R_append k70 (w0 := w) (W := w4) w.heap.size rfl (.tmp 65) (.tmp 69) 65 70 (.agg #[.string ⟨#[]⟩, .string ⟨#[]⟩]) 32 rfl Try.underlying65 info70 rfl (by decide) (by omega) (.slice (some ad7) m.length c7) m ⟨k, v⟩ [.string k, .string v] (fun _ => True) (fun _ => False) rfl rfl ?aP (fun k hk => hk.elim) ?aF ?aO ?aB ?aS ?aL ?_; (case aP => exact k70_mkM _ _ _ _); (case aF => exact (fun _ _ => trivial)); (case aO => exact HM4.out); (case aB => exact HI4.out.base); (case aS => exact below_size HI4.out.base); (case aL => omega); intro v5 w5 ho hb5 hg5 hat5; obtain ⟨A8, c8, e8⟩ := Kd.R_slice ho; subst e8; have HM5 := Aside0.mk ho; have HI5 : Aside0 (BldS w w5 g (addT s k v)) := ⟨BldS.over HI4.out HM4.out ho hb5 hg5⟩; clear ho hb5 hg5 hat5))
            go_roundg kk
            case measure => omega
            case rel => exact ⟨i + 1, m ++ [⟨k, v⟩], addT s k v, A8, c8, by first | rfl | rw [List.length_append, List.length_singleton], rfl, by omega, by rw [List.length_append, List.length_singleton]; omega, (fun x hx => by rcases List.mem_append.1 hx with hx | hx; exact HMF.out x hx; rw [List.mem_singleton.1 hx]; exact ⟨hks, hvs⟩), ⟨by rw [List.map_append]; exact HL4.out⟩, HI5, HM5⟩
        · have hbl2 : Op.bytesLess s.last.toList k.toList = false := by simpa using hbl
          have hgt0 : binOp .gtr 9 (.string k) (.string z.f0) = pure (.bool false) := by rw [binOp_string_gtr_, ← hlast, hbl2]
          have hab : Aside0 (addB s k = false) := ⟨hab0.trans hbl2⟩
          have HGT : Aside0 True := ⟨trivial⟩
          clear hlast hab0 hbl hbl2
          go_wp2_with (fail)
          go_region_law (first
            | (go_simp; go_at_call 39; (with_reducible refine (incipitlaw1_Cut.calls y.f0 40 k _ HK.out).mono ?_); rintro e w' ⟨rfl, hd⟩; obtain ⟨n, rfl⟩ := hd.out; clear hd)
            | (go_simp; go_at_call 39; (with_reducible refine (incipitlaw1_Cut.calls y.f1 40 v _ HV.out).mono ?_); rintro e w' ⟨rfl, hd⟩; obtain ⟨n2, rfl⟩ := hd.out; clear hd))
          all_goals
            go_wp2_with (fail)
            have hbd := HBD.out
            refine (block_Add.calls w (wr.drewN _) g s k v (HI.out.below (pw_below_drewN (Below.refl _ _) _)) hbd.1 hbd.2.1 (by omega) (by omega) (by omega) (by omega)).mono ?_
            rintro e w4 ⟨rfl, hI, hO⟩
            rw [hab.out, if_neg (by decide)] at hI
            rw [hab.out]
            obtain ⟨cs, hcs⟩ := HI.out.blk
            have HM4 := Aside0.mk (R_oth (Kd.R_drewN HM.out (1 + n + n2)) hO hcs (by decide))
            have HI4 := Aside0.mk hI
            have hgt := HGT.out
            clear hI hO hcs HI HM g0 g1 hbd HGT
            go_wp2_with (fail)
            go_roundg kk
            case measure => omega
            case rel => exact ⟨i + 1, m, s, some ad7, c7, rfl, rfl, by omega, by omega, HMF.out, HL, HI4, HM4⟩
  case rest =>
    clear HI
    obtain ⟨m, s, A7, c7, rfl, hml, HMF, HL, HI, HM⟩ := hcut
    obtain ⟨wr, hwr⟩ : ∃ wr, wr = wc := ⟨_, rfl⟩
    subst hwr
    have HBD : Aside0 (s.rows < 1000000000 ∧ s.last.size < 1000000 ∧ s.b.length ≤ 4400 ∧ s.p.length ≤ 160) := ⟨by
      have h1 := HL.out.rows
      have h2 := HL.out.bl
      have h3 := HL.out.pl
      have h4 := HL.out.last
      rw [List.length_map] at h1 h2 h3
      omega⟩
    go_wp2_with (fail)
    have hbd := HBD.out
    refine (block_BytesS.calls w wr g s HI.out (by omega) (by omega)).mono ?_
    rintro e w5 ⟨v, rfl, hv, hI, hb⟩
    have hol := HL.out.out_len
    have hred := HL.out.read (by rw [List.length_map]; omega)
    obtain ⟨A5, c5, e5⟩ := Kd.R_slice hv
    subst e5
    have HV := Aside0.mk (Kd.R_reads' hv).2
    have HI5 := Aside0.mk hI
    have HM5 := Aside0.mk (Kd.R_below HM.out hb)
    have HY := Aside0.mk HL.out.out_bytes
    have HRD := Aside0.mk hred
    have hol3 : s.out.length ≤ 30000 := by omega
    have hsout : Aside0 ((addTs St0 (m.map cv)).out = s.out) := ⟨by rw [← HL.out.ts]⟩
    have HOL := Aside0.mk hol
    clear hol hv hI hb HI HL hred HM
    generalize s.out = xo at *
    go_wp2_with (fail)
    refine (block_Read.calls A5 c5 xo w5 HV.out.2 HV.out.1 HY.out hol3 _ HRD.out).mono ?_
    rintro e w6 ⟨v, er, rfl, hb6, rfl, hL⟩
    obtain ⟨A6, c6, e6⟩ := Kd.R_slice hL
    rw [List.length_map] at e6
    subst e6
    have HI6 := Aside0.mk (HI5.out.below hb6)
    have HM6 := Aside0.mk (Kd.R_below HM5.out hb6)
    have HV6 := Aside0.mk (Kd.C_below HV.out.2 hb6)
    have HL6 := Aside0.mk (Kd.R_reads' hL)
    clear hL hb6 HI5 HM5
    go_wp2_with (fail)
    refine (block_Seek.calls A5 c5 xo key w6 HV6.out HV.out.1 HY.out hol3 _ HRD.out).mono ?_
    rintro e w7 ⟨rfl, hb7⟩
    obtain ⟨at0, hat0⟩ : ∃ at0, Aside0 (seekI (m.map cv) key = at0) := ⟨_, ⟨rfl⟩⟩
    have hsk : seekR (some (m.map cv)) key = (at0 : Int) := by rw [← hat0.out]; rfl
    rw [hsk, show seekE (some (m.map cv)) = 0 from rfl]
    have HI7 := Aside0.mk (HI6.out.below hb7)
    have HM7 := Aside0.mk (Kd.R_reads' (Kd.R_below HM6.out hb7))
    have HV7 := Aside0.mk (Kd.C_below HV6.out hb7)
    have HL7 := Aside0.mk (Kd.C_below HL6.out.2.2 hb7)
    have hmle : m.length ≤ c7 := HM7.out.2.1
    have hvle : xo.length ≤ c5 := HV.out.1
    have hlle : (m.map cv).length ≤ c6 := by rw [List.length_map]; exact HL6.out.2.1
    clear hb7 HI6 HM6 HV6 HL6 HV hsk HRD HY
    go_upto_region 18 with (fail)
    go_cut [17] (fun s17 wc => s17 = .int .i64 0 ∧ Aside0 (w7 = wc))
    case first =>
      go_wp2_with (fail)
      go_meet
      case rel => exact ⟨rfl, ⟨rfl⟩⟩
    case rest =>
    obtain ⟨rfl, hw7⟩ := hcut
    have hw7e := hw7.out
    subst hw7e
    clear hw7
    refine (by assumption : ∀ (a : Act) (w : World), Code.wp Try.prog ((Code.block 2 _).seq _) _ a w → _) _ _ ?_
    refine wp_seq_k (fun K2 hK2 => ?_)
    go_cut [17] (fun s17 wq => s17 = .int .i64 (at0 : Int) ∧ Aside0 (Below w7.heap.size w7 wq))
    case first =>
      go_wp2_with (fail)
      go_loopg [17] m.length (fun kq s17 wq => ∃ j : Nat, s17 = .int .i64 j ∧ j + kq = m.length ∧ Aside0 (j + seekI ((m.drop j).map cv) key = at0) ∧ Aside0 (Below w7.heap.size w7 wq))
      case atStart => exact ⟨0, rfl, by omega, ⟨by rw [Nat.zero_add, List.drop_zero]; exact hat0.out⟩, ⟨Below.refl _ _⟩⟩
      case round =>
        clear hat0
        obtain ⟨j, rfl, hj, HSK, HW⟩ := hrel
        cases gk with
        | zero =>
          have hjt : ((j : Int) < (m.length : Int)) = False := eq_false (by omega)
          have hjt2 : (j < m.length) = False := eq_false (by omega)
          have hje : j = at0 := by
            have h_ := HSK.out
            rw [List.drop_eq_nil_of_le (by omega)] at h_
            exact h_
          subst hje
          go_wp2_with (fail)
          go_meet
          case rel => exact ⟨rfl, HW⟩
        | succ k2 =>
          have hjt : ((j : Int) < (m.length : Int)) = True := eq_true (by omega)
          have hjt2 : (j < m.length) = True := eq_true (by omega)
          have hj00 : ((0 : Int) ≤ (j : Int)) = True := eq_true (by omega)
          obtain ⟨ad7, e7, f0, _⟩ := at_T70 (Kd.C_below HM7.out.2.2 HW.out) (j : Int) (by omega) (by omega)
          subst e7
          rw [Int.toNat_natCast] at f0
          have hdj : m.drop j = rd_T70 m (j : Int) :: m.drop (j + 1) := by
            unfold rd_T70
            rw [Int.toNat_natCast, List.drop_eq_getElem_cons (by omega), List.getD_eq_getElem?_getD, List.getElem?_eq_getElem (by omega)]; rfl
          have h_ := HSK.out
          rw [hdj, List.map_cons, seekI] at h_
          rw [show (cv (rd_T70 m (j : Int))).f0 = (rd_T70 m (j : Int)).f0 from rfl] at h_
          clear hdj HSK
          generalize rd_T70 m (j : Int) = z at h_ f0
          by_cases hbl : Op.bytesLess z.f0.toList key.toList = true
          · rw [if_pos hbl] at h_
            have HSK : Aside0 (j + 1 + seekI ((m.drop (j + 1)).map cv) key = at0) := ⟨by omega⟩
            have hlt : binOp .lss 9 (.string z.f0) (.string key) = pure (.bool true) := by rw [← hbl]; rfl
            have hwj : IntKind.i64.wrap ((j : Int) + 1) = ((j + 1 : Nat) : Int) := i64id (by omega)
            clear h_ hbl
            go_wp2_with (fail)
            go_roundg k2
            case measure => omega
            case rel => exact ⟨j + 1, rfl, by omega, HSK, HW⟩
          · rw [if_neg hbl, Nat.add_zero] at h_
            have hbl2 : Op.bytesLess z.f0.toList key.toList = false := by simpa using hbl
            have hlt : binOp .lss 9 (.string z.f0) (.string key) = pure (.bool false) := by rw [← hbl2]; rfl
            subst h_
            clear hbl hbl2
            go_wp2_with (fail)
            go_meet
            case rel => exact ⟨rfl, HW⟩
    case rest =>
      clear hat0
      obtain ⟨rfl, HW⟩ := hcut
      obtain ⟨wr, hwr⟩ : ∃ wr, wr = wc := ⟨_, rfl⟩
      subst hwr
      go_wp2_with (fail)
      obtain ⟨X, hX⟩ : ∃ X, Aside0 (X = strOfNums xo) := ⟨_, ⟨rfl⟩⟩
      have HWD : Aside0 (Below w7.heap.size w7 wr.drew) := ⟨below_drew1 HW.out⟩
      have hcv1 : (convert 28 9 (.slice A5 xo.length c5)).run Try.prog wr.drew = .ok (.string X) wr.drew := by rw [hX.out]; exact Kd.C_string Try.underlying28 Try.underlying5 Try.underlying9 (Kd.C_below HV7.out HWD.out)
      obtain ⟨KS, hKS⟩ := same_ev m (by omega)
      have HKS := Aside0.mk (hKS KS (Nat.le_refl _))
      have HBase := Aside0.mk (BldS.base HI7.out)
      have HOL2 : Aside0 ((s.b.length : Int) + s.p.length + 4 = (xo.length : Int)) := ⟨by rw [HOL.out]; push_cast; rfl⟩
      have HI7b : Aside0 (BldI w w7 g s.rows s.last s.b s.p) := ⟨HI7.out⟩
      have hbl1 : s.b.length < 1000000000000 := by omega
      have hpl1 : s.p.length < 1000000000000 := by omega
      have HLIM := Aside0.mk (show m.length ≤ c7 ∧ (m.map cv).length ≤ c6 ∧ s.b.length < 1000000000000 ∧ s.p.length < 1000000000000 ∧ m.length ≤ 30000 from ⟨hmle, hlle, hbl1, hpl1, by omega⟩)
      clear hKS hol3 hmle hlle hvle hbl1 hpl1 hbd hnn1 hnn2 hml
      go_region_law (first
        | (go_simp; go_at_call 44; (with_reducible refine (incipitref12_Block.calls A7 c7 m _ (Kd.C_below HM7.out.2.2 HWD.out) HLIM.out.1 80 (by decide) (fun x hx => by have := HMF.out x hx; omega) HLIM.out.2.2.2.2).mono ?_); rintro e w8 ⟨v8, rfl, ho, hb⟩; rw [hsout.out] at ho; obtain ⟨A9, c9, e9⟩ := Kd.R_slice ho; subst e9; have HW8 := Aside0.mk (below_step HWD.out hb); have hcv8 : (convert 28 9 (.slice A9 xo.length c9)).run Try.prog w8 = .ok (.string X) w8 := (by rw [hX.out]; exact Kd.C_string Try.underlying28 Try.underlying5 Try.underlying9 (Kd.R_reads' ho).2.2); have hcv8x : (convert 28 9 (.slice A5 xo.length c5)).run Try.prog w8 = .ok (.string X) w8 := (by rw [hX.out]; exact Kd.C_string Try.underlying28 Try.underlying5 Try.underlying9 (Kd.C_below HV7.out HW8.out)); clear ho hb)
        | (go_simp; go_at_call 45; (with_reducible refine (block_Size.calls w w8 g s.rows s.last s.b s.p (BldI.below HI7b.out HW8.out) HLIM.out.2.2.1 HLIM.out.2.2.2.1).mono ?_); rintro e w9 ⟨rfl, hI, hb⟩; rw [HOL2.out]; have HW9 := Aside0.mk (below_step HW8.out hb); clear hI hb; go_simp; rename_i Kc hKc; refine hKc _ _ ?_; clear hKc Kc; refine wpAny_take (i := 11) (v := .bool true) rfl (by kernel_rfl) (by kernel_rfl) (by kernel_rfl) ?hQ ?hy ?_; (case hQ => exact fun _ _ _ h => h); (case hy => exact Or.inl ⟨by kernel_rfl, by (intro w; go_simp)⟩); refine wpAny_take (i := 12) (v := .bool true) rfl (by kernel_rfl) (by kernel_rfl) (by kernel_rfl) ?hQ ?hy ?_; (case hQ => exact fun _ _ _ h => h); (case hy => exact Or.inl ⟨by kernel_rfl, by (intro w; go_simp)⟩); refine wpAny_take (i := 13) (v := .bool true) rfl (by kernel_rfl) (by kernel_rfl) (by kernel_rfl) ?hQ ?hy ?_; (case hQ => exact fun _ _ _ h => h); (case hy => exact Or.inl ⟨by kernel_rfl, by (intro w; go_simp)⟩); refine wpAny_take (i := 14) (v := .int .i64 0) rfl (by kernel_rfl) (by kernel_rfl) (by kernel_rfl) ?hQ ?hy ?_; (case hQ => exact fun _ _ _ h => h); (case hy => exact Or.inl ⟨by kernel_rfl, by (intro w; go_simp)⟩); refine wpAny_take (i := 15) (v := .bool true) rfl (by kernel_rfl) (by kernel_rfl) (by kernel_rfl) ?hQ ?hy ?_; (case hQ => exact fun _ _ _ h => h); (case hy => exact Or.inl ⟨by kernel_rfl, by (intro w; go_simp)⟩); refine wpAny_take (i := 16) (v := .bool true) rfl (by kernel_rfl) (by kernel_rfl) (by kernel_rfl) ?hQ ?hy ?_; (case hQ => exact fun _ _ _ h => h); (case hy => exact Or.inl ⟨by kernel_rfl, by (intro w; go_simp)⟩); refine wpAny_take (i := 17) (v := .bool true) rfl (by kernel_rfl) (by kernel_rfl) (by kernel_rfl) ?hQ ?hy ?_; (case hQ => exact fun _ _ _ h => h); (case hy => exact Or.inl ⟨by kernel_rfl, by (intro w; go_simp)⟩); refine wpAny_take (i := 18) (v := .slice A6 m.length c6) rfl (by kernel_rfl) (by kernel_rfl) (by kernel_rfl) ?hQ ?hy ?_; (case hQ => exact fun _ _ _ h => h); (case hy => exact Or.inl ⟨by kernel_rfl, by (intro w; go_simp)⟩); refine wpAny_take (i := 19) (v := .slice A7 m.length c7) rfl (by kernel_rfl) (by kernel_rfl) (by kernel_rfl) ?hQ ?hy ?_; (case hQ => exact fun _ _ _ h => h); (case hy => exact Or.inl ⟨by kernel_rfl, by (intro w; go_simp)⟩))
        | (go_simp; go_at_call 46; have hq := (incipitlaw16_same.calls KS A6 c6 (m.map cv) A7 c7 m true w9 (Kd.C_below HL7.out HW9.out) HLIM.out.2.1 (Kd.C_below HM7.out.2.2 HW9.out) HLIM.out.1 HKS.out); rw [List.length_map] at hq; (with_reducible refine hq.mono ?_); rintro e w10 ⟨rfl, hd⟩; have HW10 : Aside0 (Below w7.heap.size w7 w10) := ⟨by obtain ⟨m1, e1⟩ := hd.out; rw [e1]; exact pw_below_drewN HW9.out m1⟩; clear hd hq; go_simp; rename_i Kc hKc; refine hKc _ _ ?_; clear hKc Kc; refine wpAny_take (i := 21) (v := .bool true) rfl (by kernel_rfl) (by kernel_rfl) (by kernel_rfl) ?hQ ?hy ?_; (case hQ => exact fun _ _ _ h => h); (case hy => exact Or.inl ⟨by kernel_rfl, by (intro w; go_simp)⟩); refine wpAny_take (i := 22) (v := .bool true) rfl (by kernel_rfl) (by kernel_rfl) (by kernel_rfl) ?hQ ?hy ?_; (case hQ => exact fun _ _ _ h => h); (case hy => exact Or.inl ⟨by kernel_rfl, by (intro w; go_simp)⟩); refine wpAny_take (i := 23) (v := .int .i64 0) rfl (by kernel_rfl) (by kernel_rfl) (by kernel_rfl) ?hQ ?hy ?_; (case hQ => exact fun _ _ _ h => h); (case hy => exact Or.inl ⟨by kernel_rfl, by (intro w; go_simp)⟩); refine wpAny_take (i := 24) (v := .bool true) rfl (by kernel_rfl) (by kernel_rfl) (by kernel_rfl) ?hQ ?hy ?_; (case hQ => exact fun _ _ _ h => h); (case hy => exact Or.inl ⟨by kernel_rfl, by (intro w; go_simp)⟩); refine wpAny_take (i := 25) (v := .bool true) rfl (by kernel_rfl) (by kernel_rfl) (by kernel_rfl) ?hQ ?hy ?_; (case hQ => exact fun _ _ _ h => h); (case hy => exact Or.inl ⟨by kernel_rfl, by (intro w; go_simp)⟩); refine wpAny_take (i := 26) (v := .bool true) rfl (by kernel_rfl) (by kernel_rfl) (by kernel_rfl) ?hQ ?hy ?_; (case hQ => exact fun _ _ _ h => h); (case hy => exact Or.inl ⟨by kernel_rfl, by (intro w; go_simp)⟩); refine wpAny_take (i := 27) (v := .int .i64 (at0 : Int)) rfl (by kernel_rfl) (by kernel_rfl) (by kernel_rfl) ?hQ ?hy ?_; (case hQ => exact fun _ _ _ h => h); (case hy => exact Or.inl ⟨by kernel_rfl, by (intro w; go_simp)⟩); refine wpAny_take (i := 28) (v := .int .i64 (at0 : Int)) rfl (by kernel_rfl) (by kernel_rfl) (by kernel_rfl) ?hQ ?hy ?_; (case hQ => exact fun _ _ _ h => h); (case hy => exact Or.inl ⟨by kernel_rfl, by (intro w; go_simp)⟩); refine wpAny_take (i := 29) (v := .bool true) rfl (by kernel_rfl) (by kernel_rfl) (by kernel_rfl) ?hQ ?hy ?_; (case hQ => exact fun _ _ _ h => h); (case hy => exact Or.inl ⟨by kernel_rfl, by (intro w; go_simp)⟩); refine wpAny_take (i := 30) (v := .bool true) rfl (by kernel_rfl) (by kernel_rfl) (by kernel_rfl) ?hQ ?hy ?_; (case hQ => exact fun _ _ _ h => h); (case hy => exact Or.inl ⟨by kernel_rfl, by (intro w; go_simp)⟩)))
      all_goals
        go_wp2_with (fail)
        go_ret
        exact ⟨rfl, below_step HBase.out HW10.out⟩
end Go.Proofs.Ytoglanahjlfihaa.MBlk
