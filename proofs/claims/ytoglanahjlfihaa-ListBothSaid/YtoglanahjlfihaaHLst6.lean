import Derived.Test.YtoglanahjlfihaaHLst5
namespace Go.Proofs.Ytoglanahjlfihaa.MLst
open Go.RowKit Go.Proofs.Ytoglanahjlfihaa.QLst Go.Proofs.YtoglanahjlfihaaW.PrintWords Go.Proofs.YtoglanahjlfihaaW.PrintLast Go.Proofs.YtoglanahjlfihaaW.PrintMore
set_option linter.unusedVariables false
set_option linter.unusedSimpArgs false
set_option maxHeartbeats 8000000 in
set_option maxRecDepth 100000 in
theorem list_Put.calls (w0 w : World) (g : Nat) (hd : Nd S30) (tl : List (Nd S30)) (hs : List Int) (size : Int) (e : S30) (hO : LO w0 w g hd tl hs size) (hsrt : Srt (tl.map Nd.e)) (hk : Kn (tl.map Nd.e)) (hn : tl.length < 1000000) (hhn : hs.length < 1000000) (hs0 : 0 ≤ size) (hs1 : size < 1000000000000) (he : e.f0.size + e.f3.size + e.f4.size < 1000000000) :
    Calls Try.prog 17 #[.pointer (some ⟨g, 0, none⟩), .agg #[.string e.f0, .int .i64 e.f1, .int .i64 e.f2, .string e.f3, .string e.f4]] w fun e' w' => ∃ tl', e' = .returned (.bool (!has (tl.map Nd.e) e.f0 e.f1)) ∧ tl'.map Nd.e = putL (tl.map Nd.e) e ∧ LO w0 w' g hd tl' hs (if has (tl.map Nd.e) e.f0 e.f1 then size else size + (e.f0.size + e.f3.size + e.f4.size + 32)) ∧ Kept w w' (Foot g (hd :: tl)) ∧ ∀ y ∈ tl', y ∈ tl ∨ w.heap.size ≤ y.n := by
  have HO := Aside0.mk hO
  obtain ⟨G, vh, hL, hB, hg, hfn, hr⟩ := hO
  obtain ⟨Ah, ch, evh⟩ := Kd.R_slice hr
  subst evh
  have HL := Aside0.mk hL
  have HH := Aside0.mk hr
  have HB := Aside0.mk hB
  have HFN := Aside0.mk hfn
  have hask := put_asks hsrt hk e.f0 e.f1
  have hqlo := loN_lt tl (qE e.f0 e.f1)
  have hqhi := hiN_not (qE e.f0 e.f1) hsrt
  rw [from_head] at hask
  have HQ := Aside0.mk (And.intro hqlo hqhi)
  clear hL hr hB hfn hqlo hqhi
  obtain ⟨hz, hhz⟩ : ∃ hz, Aside0 (has (tl.map Nd.e) e.f0 e.f1 = hz) := ⟨_, ⟨rfl⟩⟩
  rw [hhz.out] at hask ⊢
  go_enter Try.func17, Try.ntmps17
  go_upto_region 3 with (fail)
  have HB0 : Aside0 (Below w.heap.size w (w.alloc (Obj.cells #[.string e.f0, .int .i64 e.f1, .int .i64 e.f2, .string e.f3, .string e.f4] 30))) := ⟨below_alloc (Below.refl _ _) _⟩
  obtain ⟨gp, hgp⟩ : ∃ gp, gp = w.heap.size := ⟨_, rfl⟩
  have hbx0 := blk_new w (Obj.cells #[.string e.f0, .int .i64 e.f1, .int .i64 e.f2, .string e.f3, .string e.f4] 30)
  rw [← hgp] at hbx0 ⊢
  have hgp1 : w.heap.size ≤ gp := by omega
  generalize w.alloc (Obj.cells #[.string e.f0, .int .i64 e.f1, .int .i64 e.f2, .string e.f3, .string e.f4] 30) = w1 at *
  obtain ⟨hb0, hb1, hb2, hb3, hb4⟩ := box_cells hbx0
  have HBX := Aside0.mk hbx0
  clear hbx0 hgp
  go_wp2_with (fail)
  refine (list_from.calls w1 g hd tl (loN tl (qE e.f0 e.f1)) (hiN tl (qE e.f0 e.f1)) G (.slice Ah hs.length ch) size (qE e.f0 e.f1) (HL.out.below HB0.out) (lo_hiN _ _) HQ.out.1 HQ.out.2).mono ?_
  rintro e' w2 ⟨rfl, hb⟩
  obtain ⟨hd_, hhd⟩ : ∃ o, o = (hiN tl (qE e.f0 e.f1)).head? := ⟨_, rfl⟩
  rw [← hhd] at hask ⊢
  have HMEM : Aside0 (∀ x, hd_ = some x → x ∈ hd :: tl) := ⟨fun x hx => by
    rw [hx] at hhd
    have hm := List.mem_of_mem_head? hhd.symm
    rw [← lo_hiN tl (qE e.f0 e.f1)]
    exact List.mem_cons_of_mem _ (List.mem_append_right _ hm)⟩
  clear hhd
  have HB2 := Aside0.mk (below_step HB0.out hb)
  have HBX2 := Aside0.mk (blk_below HBX.out hb)
  clear HB0 hb HBX hb0 hb1 hb2 hb3 hb4 HQ
  obtain ⟨hb0, hb1, hb2, hb3, hb4⟩ := box_cells HBX2.out
  go_upto_region 4 with (fail)
  go_cut [40] (fun s40 wc => s40 = .bool hz ∧ Aside0 (Below w.heap.size w wc) ∧ Aside0 (wc.heap[gp]? = some (.cells #[.string e.f0, .int .i64 e.f1, .int .i64 e.f2, .string e.f3, .string e.f4] 30 (0, 0))))
  case first =>
    -- <<
    cases hd_ with
    | none =>
      rw [show ptrV (Option.map Nd.b (none : Option (Nd S30))) = .pointer none from rfl]
      have hask2 : hz = false := hask
      subst hask2
      clear HMEM hask
      go_wp2_with (fail)
      go_quiet (fail)
      go_wp2_with (fail)
      go_meet
      case rel => exact ⟨rfl, ⟨pw_below_drewN HB2.out _⟩, HBX2⟩
    | some x =>
      rw [show ptrV (Option.map Nd.b (some x)) = .pointer (some ⟨x.b, 0, none⟩) from rfl]
      have hask2 : hz = decide (x.e.f0 = e.f0 ∧ x.e.f1 = e.f1) := hask
      obtain ⟨hx0, hx1, hx2, hx3, hx4⟩ := ((HL.out.nodes x (HMEM.out x rfl)).below HB2.out).ent_cells
      by_cases hc0 : x.e.f0 = e.f0
      · have hc0a : (x.e.f0 = e.f0) = True := eq_true hc0
        by_cases hc1 : x.e.f1 = e.f1
        · have hc1a : (x.e.f1 = e.f1) = True := eq_true hc1
          rw [decide_eq_true ⟨hc0, hc1⟩] at hask2
          subst hask2
          clear HMEM hask
          go_wp2_with (fail)
          go_quiet (fail)
          go_wp2_with (fail)
          go_meet
          case rel => exact ⟨rfl, ⟨pw_below_drewN HB2.out _⟩, HBX2⟩
        · have hc1a : (x.e.f1 = e.f1) = False := eq_false hc1
          have hc1b : (x.e.f1 == e.f1) = false := beq_eq_false_iff_ne.2 hc1
          rw [decide_eq_false (fun hh => hc1 hh.2)] at hask2
          subst hask2
          clear HMEM hask
          go_wp2_with (fail)
          go_quiet (fail)
          go_wp2_with (fail)
          go_meet
          case rel => exact ⟨rfl, ⟨pw_below_drewN HB2.out _⟩, HBX2⟩
      · have hc0a : (x.e.f0 = e.f0) = False := eq_false hc0
        have hc0c : (x.e.f0.toList == e.f0.toList) = false := beq_eq_false_iff_ne.2 (fun hh => hc0 (toList_inj hh))
        rw [decide_eq_false (fun hh => hc0 hh.1)] at hask2
        subst hask2
        clear HMEM hask
        go_wp2_with (fail)
        go_quiet (fail)
        go_wp2_with (fail)
        go_meet
        case rel => exact ⟨rfl, ⟨pw_below_drewN HB2.out _⟩, HBX2⟩
    -- >>
  case rest =>
    clear HMEM hask HB2 HBX2 hb0 hb1 hb2 hb3 hb4
    obtain ⟨rfl, HB2, HBX2⟩ := hcut
    obtain ⟨wr, hwr⟩ : ∃ wr, wr = wc := ⟨_, rfl⟩
    subst hwr
    cases hz with
    | true =>
      go_wp2_with (fail)
      go_ret
      exact ⟨rfl, tl, by unfold putL; rw [if_pos hhz.out], HO.out.below HB2.out, Kept.of_below HB2.out _, fun y hy => .inl hy⟩
    | false =>
      go_upto_region 6 with (fail)
      go_cut [6] (fun s6 wc => s6 = .int .i64 1 ∧ Aside0 (wr = wc))
      case first =>
        go_wp2_with (fail)
        go_meet
        case rel => exact ⟨rfl, ⟨rfl⟩⟩
      case rest =>
      obtain ⟨rfl, hwr⟩ := hcut
      have hwe := hwr.out
      subst hwe
      clear hwr
      refine (by assumption : ∀ (a : Act) (w : World), Code.wp Try.prog (Code.seq (Code.seq (Code.region 7 _ _) _) _) _ a w → _) _ _ ?_
      refine wp_seq_k (fun K2 hK2 => ?_)
      have hblk := blk_below HL.out.blk HB2.out
      have hc1 : wr.cell? ⟨g, 1, none⟩ = some (.slice Ah hs.length ch) := by rw [blk_cell hblk 1]; rfl
      have hc2 : wr.cell? ⟨g, 2, none⟩ = some (.int .i64 tl.length) := by rw [blk_cell hblk 2]; rfl
      clear hblk
      go_cut [6] (fun s6 wd => ∃ ht : Nat, s6 = .int .i64 ht ∧ 1 ≤ ht ∧ ht ≤ 8 ∧ Aside0 (Below w.heap.size w wd) ∧ Aside0 (wd.heap[gp]? = some (.cells #[.string e.f0, .int .i64 e.f1, .int .i64 e.f2, .string e.f3, .string e.f4] 30 (0, 0))))
      case first =>
        -- <<
        by_cases hnh : tl.length < hs.length
        · have hnha : ((tl.length : Int) < (hs.length : Int)) = True := eq_true (by omega)
          have hnhb : (tl.length < hs.length) = True := eq_true hnh
          have hn0 : ((0 : Int) ≤ (tl.length : Int)) = True := eq_true (by omega)
          have hHH := Kd.R_below HH.out HB2.out
          obtain ⟨gR, cap, eR, hgRw, _, _⟩ := Kd.R_form hHH (by omega)
          injection eR with e1 e2 e3
          subst e1
          subst e3
          obtain ⟨hcell, hfz⟩ := Kd.R_celln (0 : Int) hHH (tl.length : Int) (by omega) (by omega)
          rw [Int.toNat_natCast] at hcell hfz
          obtain ⟨vq, hvq⟩ : ∃ vq, vq = rdOf 0 hs (tl.length : Int) := ⟨_, rfl⟩
          rw [← hvq] at hcell
          clear hHH hvq
          go_wp2_with (fail)
          go_quiet (fail)
          go_wp2_with (fail)
          go_quiet (fail)
          go_wp2_with (fail)
          go_meet
          case rel => exact ⟨(min (max vq 1) 8).toNat, by congr 1; omega, by omega, by omega, ⟨pw_below_drewN (pw_below_drewN HB2.out _) _⟩, HBX2⟩
        · have hnha : ((tl.length : Int) < (hs.length : Int)) = False := eq_false (by omega)
          have hnhb : (tl.length < hs.length) = False := eq_false hnh
          go_wp2_with (fail)
          go_quiet (fail)
          go_wp2_with (fail)
          go_meet
          case rel => exact ⟨1, rfl, by decide, by decide, ⟨pw_below_drewN HB2.out _⟩, HBX2⟩
        -- >>
      case rest =>
        clear HB2 HBX2 hc1 hc2
        obtain ⟨ht, rfl, ht1, ht8, HB2, HBX2⟩ := hcut
        obtain ⟨wr, hwr⟩ : ∃ wr, wr = wc := ⟨_, rfl⟩
        subst hwr
        obtain ⟨hb0, hb1, hb2, hb3, hb4⟩ := box_cells HBX2.out
        have hmk : ∀ W : World, (Instr.makeSlice 86 (.int .i64 (ht : Int)) (.int .i64 (ht : Int))).run Try.prog W = .ok (.slice (some ⟨W.heap.size, 0, none⟩) ht ht) (W.alloc (.cells (rowV (fun _ => none) ht) 85)) := make_row ht (by omega)
        obtain ⟨ha0, ha1, ha2, ha3, ha4⟩ := box_cells (blk_alloc HBX2.out (Obj.cells (rowV (fun _ => none) ht) 85))
        refine hK2 _ _ ?_
        clear hK2
        go_upto_region 9 with (fail)
        go_cut [7] (fun s7 wd => ∃ gx gr, s7 = .pointer (some ⟨gx, 0, none⟩) ∧ w.heap.size ≤ gx ∧ w.heap.size ≤ gr ∧ Aside0 (Below w.heap.size w wd) ∧ Aside0 (wd.heap[gp]? = some (.cells #[.string e.f0, .int .i64 e.f1, .int .i64 e.f2, .string e.f3, .string e.f4] 30 (0, 0))) ∧ Aside0 (wd.heap[gx]? = some (.cells #[.string e.f0, .int .i64 e.f1, .int .i64 e.f2, .string e.f3, .string e.f4, .slice (some ⟨gr, 0, none⟩) ht ht] 88 (0, 0))) ∧ Aside0 (wd.heap[gr]? = some (.cells (rowV (fun _ => none) ht) 85 (0, 0))))
        case first =>
          -- <<
          go_wp2_with (fail)
          go_region
          all_goals
            go_wp2_with (fail)
            go_meet
            case rel => exact ⟨wr.heap.size + 1, wr.heap.size, rfl, by have := HB2.out.size; omega, HB2.out.size, ⟨below_drew1 (below_alloc (below_alloc HB2.out _) _)⟩, ⟨blk_drew (blk_alloc (blk_alloc HBX2.out _) _)⟩, ⟨blk_drew (by have h_ := blk_new (wr.alloc (Obj.cells (rowV (fun _ => none) ht) 85)) (Obj.cells #[.string e.f0, .int .i64 e.f1, .int .i64 e.f2, .string e.f3, .string e.f4, .slice (some ⟨wr.heap.size, 0, none⟩) ht ht] 88); rw [Go.Deep.nblk_alloc] at h_; exact h_)⟩, ⟨blk_drew (blk_alloc (blk_new _ _) _)⟩⟩
          -- >>
        case rest =>
          clear HB2 HBX2 hb0 hb1 hb2 hb3 hb4 ha0 ha1 ha2 ha3 ha4
          obtain ⟨gx, gr, rfl, hgx, hgr, HB2, HBX2, HX, HR⟩ := hcut
          obtain ⟨wr, hwr⟩ : ∃ wr, wr = wc := ⟨_, rfl⟩
          subst hwr
          obtain ⟨hb0, hb1, hb2, hb3, hb4⟩ := box_cells HBX2.out
          go_wp2_with (fail)
          refine (list_before.calls wr g hd tl (loN tl e) (hiN tl e) G (.slice Ah hs.length ch) size e (HL.out.below HB2.out) (lo_hiN _ _) (loN_lt _ _) (hiN_not _ hsrt)).mono ?_
          rintro e' w3 ⟨gw, W, rfl, hb, hgw, hw, hway⟩
          have HWAY := Aside0.mk hway
          have HW := Aside0.mk hw
          have HB3 := Aside0.mk (below_step HB2.out hb)
          have HBX3 := Aside0.mk (blk_below HBX2.out hb)
          have HX3 := Aside0.mk (blk_below HX.out hb)
          have HR3 := Aside0.mk (blk_below HR.out hb)
          have HGW : Aside0 (w.heap.size ≤ gw ∧ gr < gw ∧ ∀ y ∈ hd :: tl, y.n < gw ∧ y.b < gx ∧ y.n < gr) := ⟨by
            have h1 := HB2.out.size
            have h2 := blk_lt HR.out
            refine ⟨by omega, by omega, fun y hy => ?_⟩
            have h3 := blk_lt (HL.out.nodes y hy).1
            have h4 := blk_lt (HL.out.nodes y hy).2
            exact ⟨by omega, by omega, by omega⟩⟩
          clear hway hw hb HB2 HBX2 HX HR hb0 hb1 hb2 hb3 hb4 hgw
          have hsl0 : ((0 : Int) ≤ (ht : Int)) = True := eq_true (by omega)
          have hsl1 : ((ht : Int) ≤ 8) = True := eq_true (by omega)
          have hsl2 : (ht ≤ 8) = True := eq_true (by omega)
          go_wp2_with (fail)
          obtain ⟨x, hx⟩ : ∃ x : Nd S30, Aside0 (x = ⟨gx, gr, e, ht⟩) := ⟨_, ⟨rfl⟩⟩
          obtain ⟨pre, hpre⟩ : ∃ pre, Aside0 (pre = hd :: loN tl e) := ⟨_, ⟨rfl⟩⟩
          obtain ⟨post, hpost⟩ : ∃ post, Aside0 (post = hiN tl e) := ⟨_, ⟨rfl⟩⟩
          have HNS : Aside0 (hd :: tl = pre ++ post) := ⟨by rw [hpre.out, hpost.out, List.cons_append, lo_hiN]⟩
          have HAP : Aside0 (Apart (pre ++ x :: post)) := ⟨apart_ins (by rw [← HNS.out]; exact HL.out.apart) (fun y hy => by
            rw [← HNS.out] at hy
            have := HGW.out.2.2 y hy
            rw [hx.out]
            exact ⟨by show y.b ≠ gx; omega, by show y.n ≠ gr; omega⟩) (by rw [hx.out]; exact blk_ne HX3.out HR3.out (by decide)) (fun y hy => by
            rw [← HNS.out] at hy
            have h1 := (HL.out.nodes y hy).below HB3.out
            rw [hx.out]
            exact ⟨blk_ne h1.1 HR3.out (by decide), fun hh => by have := blk_ne HX3.out h1.2 (by decide); exact this hh.symm⟩)⟩
          obtain ⟨G0, hG0⟩ : ∃ G0 : Nat → Nat → Option Nat, G0 = fun b k => if b = gx then none else G b k := ⟨_, rfl⟩
          have HN0 : Aside0 (∀ y ∈ pre ++ x :: post, NdB w3 G0 y) := ⟨fun y hy => by
            rcases List.mem_append.1 hy with hm | hm
            · exact nd_other (HL.out.nodes y (by rw [HNS.out]; exact List.mem_append_left _ hm)) HB3.out hG0 (by have := HGW.out.2.2 y (by rw [HNS.out]; exact List.mem_append_left _ hm); omega)
            · rcases List.mem_cons.1 hm with rfl | hm
              · rw [hx.out]
                refine ⟨HX3.out, HR3.out.trans ?_⟩
                congr 1
                congr 1
                exact rowV_congr fun k _ => by rw [hG0]; exact (if_pos rfl).symm
              · exact nd_other (HL.out.nodes y (by rw [HNS.out]; exact List.mem_append_right _ hm)) HB3.out hG0 (by have := HGW.out.2.2 y (by rw [HNS.out]; exact List.mem_append_right _ hm); omega)⟩
          have HLK0 : Aside0 (LkJ pre x post G0 0) := ⟨LkJ.start (fun a y c e_ k hk_ => by
            have hl := HL.out.lk a y c (by rw [HNS.out]; exact e_) k hk_
            have := HGW.out.2.2 y (by rw [HNS.out, e_]; simp)
            rw [hG0]
            show (if y.b = gx then none else G y.b k) = _
            rw [if_neg (by omega)]
            exact hl)⟩
          have HBLK : Aside0 (w3.heap[g]? = some (.cells #[.pointer (some ⟨hd.b, 0, none⟩), .slice Ah hs.length ch, .int .i64 tl.length, .int .i64 size] 90 (0, 0))) := ⟨blk_below HL.out.blk HB3.out⟩
          have HKP : Aside0 (Kept w w3 (Foot g (hd :: tl))) := ⟨Kept.of_below HB3.out _⟩
          have HHG : Aside0 (Kd.R (Kd.int .i64) 3 w3 w0.heap.size (fun _ => True) (.slice Ah hs.length ch) hs) := ⟨Kd.R_below HH.out HB3.out⟩
          have HBB : Aside0 (Below w0.heap.size w0 w3) := ⟨below_step HB.out HB3.out⟩
          go_loopg [74] ht (fun kq s74 wq => ∃ (j : Nat) (G1 : Nat → Nat → Option Nat), s74 = .int .i64 j ∧ j + kq = ht ∧ Aside0 (∀ y ∈ pre ++ x :: post, NdB wq G1 y) ∧ Aside0 (LkJ pre x post G1 j) ∧ Aside0 (wq.heap[g]? = some (.cells #[.pointer (some ⟨hd.b, 0, none⟩), .slice Ah hs.length ch, .int .i64 tl.length, .int .i64 size] 90 (0, 0))) ∧ Aside0 (Kept w wq (Foot g (hd :: tl))) ∧ Aside0 (Kd.R (Kd.int .i64) 3 wq w0.heap.size (fun _ => True) (.slice Ah hs.length ch) hs) ∧ Aside0 (Below w0.heap.size w0 wq) ∧ Aside0 (wq.heap[gp]? = some (.cells #[.string e.f0, .int .i64 e.f1, .int .i64 e.f2, .string e.f3, .string e.f4] 30 (0, 0))) ∧ Aside0 (wq.heap[gw]? = some (.cells (rowV W 8) 85 (0, 0))))
          case atStart => exact ⟨0, G0, rfl, by omega, HN0, HLK0, HBLK, HKP, HHG, HBB, HBX3, HW⟩
          case round =>
            clear HN0 HLK0 HBLK HKP HHG HBB HBX3 HW hG0 HX3 HR3 HB3
            obtain ⟨j, G1, rfl, hj, HN1, HLK1, HBLK, HKP, HHG, HBB, HBX3, HW⟩ := hrel
            cases gk with
            | zero =>
              have hja : ((j : Int) < (ht : Int)) = False := eq_false (by omega)
              have hjb : (j < ht) = False := eq_false (by omega)
              have hjh : j = ht := by omega
              subst hjh
              have hc2 : wr.cell? ⟨g, 2, none⟩ = some (.int .i64 tl.length) := by rw [blk_cell HBLK.out 2]; rfl
              have hf2 := blk_frozen HBLK.out 2
              have hwn : IntKind.i64.wrap ((tl.length : Int) + 1) = ((tl.length + 1 : Nat) : Int) := by rw [IntKind.wrap_i64]; omega
              have hgpg : gp ≠ g := blk_ne HBX3.out HBLK.out (by decide)
              have hbgp : w.heap.size ≤ gp := hgp1
              go_upto_region 15 with (fail)
              go_cut [4] (fun s4 wd => s4 = .bool false ∧ Aside0 (wr.setCell ⟨g, 2, none⟩ (.int .i64 ((tl.length + 1 : Nat) : Int)) = wd))
              case first =>
                go_wp2_with (fail)
                go_meet
                case rel => exact ⟨rfl, ⟨by first | rfl | (congr 1; rw [← hwn])⟩⟩
              case rest =>
                obtain ⟨rfl, hwd⟩ := hcut
                have HBLK2 : Aside0 (wc.heap[g]? = some (.cells #[.pointer (some ⟨hd.b, 0, none⟩), .slice Ah hs.length ch, .int .i64 ((tl.length + 1 : Nat) : Int), .int .i64 size] 90 (0, 0))) := ⟨by rw [← hwd.out]; exact blk_set HBLK.out 2 _⟩
                have HBX4 : Aside0 (wc.heap[gp]? = some (.cells #[.string e.f0, .int .i64 e.f1, .int .i64 e.f2, .string e.f3, .string e.f4] 30 (0, 0))) := ⟨by rw [← hwd.out]; exact blk_far HBX3.out hgpg _⟩
                obtain ⟨hb0, hb1, hb2, hb3, hb4⟩ := box_cells HBX4.out
                have hc3 : wc.cell? ⟨g, 3, none⟩ = some (.int .i64 size) := by rw [blk_cell HBLK2.out 3]; rfl
                have hf3 := blk_frozen HBLK2.out 3
                obtain ⟨m0, hm0⟩ : ∃ m0 : Nat, Aside0 (m0 = e.f0.size) := ⟨_, ⟨rfl⟩⟩
                obtain ⟨m3, hm3⟩ : ∃ m3 : Nat, Aside0 (m3 = e.f3.size) := ⟨_, ⟨rfl⟩⟩
                obtain ⟨m4, hm4⟩ : ∃ m4 : Nat, Aside0 (m4 = e.f4.size) := ⟨_, ⟨rfl⟩⟩
                have he2 : (e.f0.size : Int) + e.f3.size + e.f4.size < 1000000000 := by omega
                have hw1 : IntKind.i64.wrap ((e.f0.size : Int) + e.f3.size) = (e.f0.size : Int) + e.f3.size := by rw [IntKind.wrap_i64]; omega
                have hw2 : IntKind.i64.wrap ((e.f0.size : Int) + e.f3.size + e.f4.size) = (e.f0.size : Int) + e.f3.size + e.f4.size := by rw [IntKind.wrap_i64]; omega
                have hw3 : IntKind.i64.wrap ((e.f0.size : Int) + e.f3.size + e.f4.size + 32) = (e.f0.size : Int) + e.f3.size + e.f4.size + 32 := by rw [IntKind.wrap_i64]; omega
                have hw4 : IntKind.i64.wrap (size + ((e.f0.size : Int) + e.f3.size + e.f4.size + 32)) = size + ((e.f0.size : Int) + e.f3.size + e.f4.size + 32) := by rw [IntKind.wrap_i64]; omega
                go_wp2_with (fail)
                go_region
                all_goals
                  clear hw1 hw2 hw3 hw4 hn hhn hs1 he he2 hja hjb hc3 hf3 hb0 hb1 hb2 hb3 hb4 hc2 hf2 hwn
                  go_wp2_with (fail)
                  go_ret
                  refine ⟨rfl, ?_⟩
                  have hxe := hx.out
                  subst hxe
                  exact put_end w0 w wr wc g hd tl pre post G G1 _ HL.out hwd.out hpre.out hpost.out rfl ht1 ht8 HAP.out HN1.out HLK1.out HBLK.out HKP.out HHG.out HBB.out hg HFN.out hgr HB.out hhz.out
            | succ kk =>
              have hja : ((j : Int) < (ht : Int)) = True := eq_true (by omega)
              have hjb : (j < ht) = True := eq_true (by omega)
              have hj0 : ((0 : Int) ≤ (j : Int)) = True := eq_true (by omega)
              obtain ⟨y, hla, hWj⟩ := HWAY.out j (by omega)
              rw [← hpre.out] at hla
              have hyj : j < y.h := by obtain ⟨_, _, _, h, _⟩ := hla; exact h
              have hmem : y ∈ pre ++ x :: post := by obtain ⟨a, c, h, _, _⟩ := hla; rw [h]; simp
              have hmx : x ∈ pre ++ x :: post := by simp
              have hxh : j < x.h := by rw [hx.out]; show j < ht; omega
              obtain ⟨hGy, hlk2⟩ := HLK1.out.step hxh hla HAP.out
              have hNy := HN1.out y hmem
              have hNx := HN1.out x hmx
              have hcy := hNy.cell
              have hcn := hNy.at hyj
              have hcx := hNx.cell
              have hcr := hNx.at hxh
              have hfy := blk_frozen hNy.2 j
              have hfx := blk_frozen hNx.2 j
              rw [hx.out] at hcx hcr hfx
              have hcw : wr.cell? ⟨gw, j, none⟩ = some (.pointer (some ⟨y.b, 0, none⟩)) := by rw [blk_cell HW.out, rowV_get (by omega), hWj]; rfl
              have hyr : y.n ≠ gr := by
                have hpm : y ∈ hd :: tl := by rw [HNS.out]; obtain ⟨a, c, h, _, _⟩ := hla; rw [h]; simp
                have := HGW.out.2.2 y hpm; omega
              have hj8 : ((j : Int) < 8) = True := eq_true (by omega)
              have hj8b : (j < 8) = True := eq_true (by omega)
              have hjy : ((j : Int) < (y.h : Int)) = True := eq_true (by omega)
              have hjyb : (j < y.h) = True := eq_true hyj
              obtain ⟨u, hu⟩ : ∃ u, ptrV (G1 y.b j) = .pointer u := ⟨_, rfl⟩
              rw [hu] at hcn
              have hjw : IntKind.i64.wrap ((j : Int) + 1) = ((j + 1 : Nat) : Int) := by rw [IntKind.wrap_i64]; omega
              go_wp2_with (fail)
              go_region
              all_goals
                go_wp2_with (fail)
                go_roundg kk
                case measure => omega
                case rel =>
                  rw [hGy] at hu
                  rw [← hu, ← ptrV_some]
                  have hpm : y ∈ hd :: tl := by rw [HNS.out]; obtain ⟨a, c, h, _, _⟩ := hla; rw [h]; simp
                  have hxe := hx.out
                  subst hxe
                  exact put_step wr w0 w g hd tl pre post G1 _ y j (Ah := Ah) (ch := ch) (hs := hs) (size := size) (gp := gp) (gw := gw) (e := e) (W := W) kk ht HAP.out hmem hpm HN1.out hlk2 HBLK.out HKP.out HHG.out HBB.out HBX3.out HW.out (HFN.out y hpm) hgr (Nat.le_trans HB.out.size hgr) (HGW.out.2.2 y hpm).1 HGW.out.2.1 hj
end Go.Proofs.Ytoglanahjlfihaa.MLst
