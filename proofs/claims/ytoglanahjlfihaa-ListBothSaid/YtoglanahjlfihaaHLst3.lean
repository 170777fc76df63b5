import Derived.Test.YtoglanahjlfihaaHLst2
namespace Go.Proofs.Ytoglanahjlfihaa.MLst
open Go.RowKit Go.Proofs.Ytoglanahjlfihaa.QLst Go.Proofs.YtoglanahjlfihaaW.PrintWords Go.Proofs.YtoglanahjlfihaaW.PrintLast Go.Proofs.YtoglanahjlfihaaW.PrintMore
set_option linter.unusedVariables false
set_option linter.unusedSimpArgs false
set_option maxHeartbeats 8000000 in
set_option maxRecDepth 100000 in
theorem list_before.calls (w : World) (g : Nat) (hd : Nd S30) (tl pl post : List (Nd S30)) (G : Nat → Nat → Option Nat) (vh : Value) (size : Int) (e : S30) (hL : Lst w g hd tl G vh size) (htl : pl ++ post = tl) (hlo : ∀ y ∈ pl, ltE y.e e = true) (hhi : ∀ y ∈ post, ltE y.e e = false) :
    Calls Try.prog 52 #[.pointer (some ⟨g, 0, none⟩), .agg #[.string e.f0, .int .i64 e.f1, .int .i64 e.f2, .string e.f3, .string e.f4]] w fun e' w' => ∃ gw W, e' = .returned (.slice (some ⟨gw, 0, none⟩) 8 8) ∧ Below w.heap.size w w' ∧ w.heap.size ≤ gw ∧ w'.heap[gw]? = some (.cells (rowV W 8) 85 (0, 0)) ∧ ∀ k, k < 8 → ∃ y, LastAt (hd :: pl) k y ∧ W k = some y.b := by
  have HL := Aside0.mk hL
  have hmk : ∀ W : World, (Instr.makeSlice 86 (.int .i64 8) (.int .i64 8)).run Try.prog W = .ok (.slice (some ⟨W.heap.size, 0, none⟩) 8 8) (W.alloc (.cells (rowV (fun _ => none) 8) 85)) := make_row 8 (by decide)
  clear hL
  obtain ⟨gp, hgp⟩ : ∃ gp, Aside0 (gp = w.heap.size) := ⟨_, ⟨rfl⟩⟩
  go_enter Try.func52, Try.ntmps52
  go_upto_region 1 with (fail)
  go_cut [3, 5] (fun s3 s5 wc => ∃ gw, s3 = .pointer (some ⟨gp, 0, none⟩) ∧ s5 = .slice (some ⟨gw, 0, none⟩) 8 8 ∧ w.heap.size ≤ gw ∧ Aside0 (Below w.heap.size w wc) ∧ Aside0 (wc.heap[gp]? = some (.cells #[.string e.f0, .int .i64 e.f1, .int .i64 e.f2, .string e.f3, .string e.f4] 30 (0, 0))) ∧ Aside0 (wc.heap[gw]? = some (.cells (rowV (fun _ => none) 8) 85 (0, 0))))
  case first =>
    go_wp2_with (fail)
    go_meet
    case rel => exact ⟨w.heap.size + 1, by rw [hgp.out], rfl, by omega, ⟨below_alloc (below_alloc (Below.refl _ _) _) _⟩, ⟨by rw [hgp.out]; exact blk_alloc (blk_new _ _) _⟩, ⟨by have h_ := blk_new (w.alloc (Obj.cells #[.string e.f0, .int .i64 e.f1, .int .i64 e.f2, .string e.f3, .string e.f4] 30)) (Obj.cells (rowV (fun _ => none) 8) 85); rw [Go.Deep.nblk_alloc] at h_; exact h_⟩⟩
  case rest =>
    obtain ⟨gw, rfl, rfl, hgw, HB, HP, HW⟩ := hcut
    obtain ⟨wr, hwr⟩ : ∃ wr, wr = wc := ⟨_, rfl⟩
    subst hwr
    have hc0 : wr.cell? ⟨g, 0, none⟩ = some (.pointer (some ⟨hd.b, 0, none⟩)) := by rw [blk_cell (blk_below HL.out.blk HB.out) 0]; rfl
    go_wp2_with (fail)
    go_loopg [6, 7] 8 (fun kq s6 s7 wr => ∃ (a c : List (Nd S30)) (y : Nd S30) (W : Nat → Option Nat), s6 = .pointer (some ⟨y.b, 0, none⟩) ∧ s7 = .int .i64 ((kq : Int) - 1) ∧ kq ≤ 8 ∧ hd :: pl = a ++ y :: c ∧ kq ≤ y.h ∧ (∀ k, kq ≤ k → k < 8 → ∃ y, LastAt (hd :: pl) k y ∧ W k = some y.b) ∧ Aside0 (Below w.heap.size w wr) ∧ Aside0 (wr.heap[gp]? = some (.cells #[.string e.f0, .int .i64 e.f1, .int .i64 e.f2, .string e.f3, .string e.f4] 30 (0, 0))) ∧ Aside0 (wr.heap[gw]? = some (.cells (rowV W 8) 85 (0, 0))))
    case atStart => exact ⟨[], pl, hd, fun _ => none, rfl, rfl, Nat.le_refl _, rfl, by rw [HL.out.h8]; exact Nat.le_refl _, (fun k h1 h2 => by omega), HB, HP, HW⟩
    case round =>
      clear HB HP HW hc0
      obtain ⟨a, c, y, W, rfl, rfl, hk8, hpre, hyh, hway, HB, HP, HW⟩ := hrel
      have HWAY := Aside0.mk hway
      clear hway
      cases gk with
      | zero =>
        have hk0 : ((0 : Int) ≤ ((0 : Nat) : Int) - 1) = False := eq_false (by decide)
        go_wp2_with (fail)
        go_ret
        exact ⟨gw, W, rfl, HB.out, hgw, HW.out, fun k hk => HWAY.out k (Nat.zero_le _) hk⟩
      | succ kk =>
        have hj : (((kk + 1 : Nat) : Int) - 1) = (kk : Int) := by omega
        have hk0 : ((0 : Int) ≤ (kk : Int)) = True := eq_true (by omega)
        rw [hj]
        refine wp_seq_k (fun K1 hK1 => ?_)
        have HK1 := Aside0.mk hK1
        clear hK1
        go_wp2_with (fail)
        refine HK1.out _ _ ?_
        clear HK1
        refine wp_seq_k (fun K2 hK2 => ?_)
        refine wp_block ?_
        refine wp_seq_k (fun K3 hK3 => ?_)
        go_cut [6] (fun s6 wc => ∃ (y : Nd S30), s6 = .pointer (some ⟨y.b, 0, none⟩) ∧ LastAt (hd :: pl) kk y ∧ Aside0 (Below w.heap.size w wc) ∧ Aside0 (wc.heap[gp]? = some (.cells #[.string e.f0, .int .i64 e.f1, .int .i64 e.f2, .string e.f3, .string e.f4] 30 (0, 0))) ∧ Aside0 (wc.heap[gw]? = some (.cells (rowV W 8) 85 (0, 0))))
        case first =>
          go_wp2_with (fail)
          go_loopg [6] (c.length + 1) (fun kq s6 wr => ∃ (a c : List (Nd S30)) (y : Nd S30), s6 = .pointer (some ⟨y.b, 0, none⟩) ∧ hd :: pl = a ++ y :: c ∧ kk < y.h ∧ c.length < kq ∧ Aside0 (Below w.heap.size w wr) ∧ Aside0 (wr.heap[gp]? = some (.cells #[.string e.f0, .int .i64 e.f1, .int .i64 e.f2, .string e.f3, .string e.f4] 30 (0, 0))) ∧ Aside0 (wr.heap[gw]? = some (.cells (rowV W 8) 85 (0, 0))))
          case atStart => exact ⟨a, c, y, rfl, hpre, by omega, Nat.lt_succ_self _, HB, HP, HW⟩
          case round =>
            clear HB HP HW hpre hyh
            obtain ⟨a, c, y, rfl, hpre, hyh, hcl, HB, HP, HW⟩ := hrel
            cases gk with
            | zero => exact absurd hcl (Nat.not_lt_zero _)
            | succ k2 =>
              have hns : hd :: tl = a ++ y :: (c ++ post) := by rw [← htl, ← List.cons_append, hpre, List.append_assoc, List.cons_append]
              have hN := HL.out.nodes
              have hlk : G y.b kk = nxt (c ++ post) kk := HL.out.lk a y (c ++ post) hns kk hyh
              have hNy : NdB wr G y := (hN y (by rw [hns]; simp)).below HB.out
              have hcy := hNy.cell
              have hcn := hNy.at hyh
              have hi1 : ((kk : Int) < (y.h : Int)) = True := eq_true (by omega)
              have hi2 : (kk < y.h) = True := eq_true hyh
              have hbx := box_cells HP.out
              obtain ⟨hb0, hb1, hb2, hb3, hb4⟩ := hbx
              rw [hlk] at hcn
              have HN0 : Aside0 (NdB w G y) := ⟨hN y (by rw [hns]; simp)⟩
              clear hNy
              cases hn : nxt (c ++ post) kk with
              | none =>
                rw [hn, ptrV_none] at hcn
                have hla : LastAt (hd :: pl) kk y := ⟨a, c, hpre, hyh, fun z hz => nxt_none hn z (List.mem_append_left _ hz)⟩
                have HLA := Aside0.mk hla
                clear hla hn hlk hns hN hpre
                go_wp2_with (fail)
                go_quiet (fail)
                go_wp2_with (fail)
                go_meet
                case rel => exact ⟨y, rfl, HLA.out, ⟨pw_below_drewN HB.out _⟩, HP, HW⟩
              | some b => 
                obtain ⟨c1, z, c2, ec, rfl, hz, hc1⟩ := nxt_some hn
                rw [hn, ptrV_some] at hcn
                obtain ⟨hz0, hz1, hz2, hz3, hz4⟩ := ((hN z (by rw [hns, ec]; simp)).below HB.out).ent_cells
                have HLS := Aside0.mk (less_f z.e e)
                have hlk2 : Aside0 (G y.b kk = some z.b) := ⟨hlk.trans hn⟩
                rcases part_app ec with ⟨t, e1, e2⟩ | ⟨t, e1, e2⟩
                · have HZ : Aside0 (ltE z.e e = true) := ⟨hlo z (by
                    rcases part2 (a := a) (c := c1 ++ z :: t) (y := y) (a' := []) (c' := pl) (y' := hd) (by rw [← e1]; exact hpre.symm) with ⟨q, h1, _⟩ | ⟨_, _, h3⟩ | ⟨q, _, h3⟩
                    · cases a <;> cases h1
                    · rw [← h3]; simp
                    · rw [h3]; simp)⟩
                  clear hn hlk hns hN ec
                  go_wp2_with (fail)
                  go_region_law (first | (go_simp; go_at_call 73; (with_reducible refine (ikey_Less.calls z.e.f0 z.e.f1 z.e.f2 z.e.f3 z.e.f4 e.f0 e.f1 e.f2 e.f3 e.f4 _ _ HLS.out).mono ?_); rintro e' w' ⟨rfl, hb⟩; rw [HZ.out]; have HB2 := Aside0.mk hb; clear hb))
                  all_goals
                    have HB3 := Aside0.mk (below_step (below_drew1 HB.out) HB2.out)
                    have HP3 := Aside0.mk (blk_below (blk_drew HP.out) HB2.out)
                    have HW3 := Aside0.mk (blk_below (blk_drew HW.out) HB2.out)
                    have hcy := (HN0.out.below HB3.out).cell
                    have hcn := (HN0.out.below HB3.out).at hyh
                    rw [hlk2.out, ptrV_some] at hcn
                    clear HB HP HW HB2 hb0 hb1 hb2 hb3 hb4 hz0 hz1 hz2 hz3 hz4
                    go_wp2_with (fail)
                    go_roundg k2
                    case measure => omega
                    case rel => exact ⟨a ++ y :: c1, t, z, rfl, by rw [hpre, e1, List.append_assoc, List.cons_append], hz, by rw [e1, List.length_append, List.length_cons] at hcl; omega, HB3, HP3, HW3⟩
                · have HZ : Aside0 (ltE z.e e = false) := ⟨hhi z (by rw [e2]; simp)⟩
                  have hla : LastAt (hd :: pl) kk y := ⟨a, c, hpre, hyh, fun x hx => hc1 x (by rw [e1]; exact List.mem_append_left _ hx)⟩
                  have HLA := Aside0.mk hla
                  clear hn hlk hns hN ec hla
                  go_wp2_with (fail)
                  go_region_law (first | (go_simp; go_at_call 73; (with_reducible refine (ikey_Less.calls z.e.f0 z.e.f1 z.e.f2 z.e.f3 z.e.f4 e.f0 e.f1 e.f2 e.f3 e.f4 _ _ HLS.out).mono ?_); rintro e' w' ⟨rfl, hb⟩; rw [HZ.out]; have HB2 := Aside0.mk hb; clear hb))
                  all_goals
                    have HB3 := Aside0.mk (below_step (below_drew1 HB.out) HB2.out)
                    have HP3 := Aside0.mk (blk_below (blk_drew HP.out) HB2.out)
                    have HW3 := Aside0.mk (blk_below (blk_drew HW.out) HB2.out)
                    clear HB HP HW HB2 hb0 hb1 hb2 hb3 hb4 hz0 hz1 hz2 hz3 hz4
                    go_wp2_with (fail)
                    go_meet
                    case rel => exact ⟨y, rfl, HLA.out, HB3, HP3, HW3⟩
        case rest =>
          clear HB HP HW
          obtain ⟨y2, rfl, hla, HB, HP, HW⟩ := hcut
          obtain ⟨wr, hwr⟩ : ∃ wr, wr = wc := ⟨_, rfl⟩
          subst hwr
          have HLA := Aside0.mk hla
          have hk8a : ((kk : Int) < 8) = True := eq_true (by omega)
          have hk8b : (kk < 8) = True := eq_true (by omega)
          have hcw : wr.cell? ⟨gw, kk, none⟩ = some (ptrV (W kk)) := by rw [blk_cell HW.out, rowV_get (by omega)]
          have hfw := blk_frozen HW.out kk
          have hwk : IntKind.i64.wrap ((kk : Int) - 1) = (kk : Int) - 1 := by rw [IntKind.wrap_i64]; omega
          clear hla
          refine hK3 _ _ ?_
          go_wp2_with (fail)
          obtain ⟨a2, c2, hp2, hy2, _⟩ := HLA.out
          go_roundg kk
          case measure => omega
          case rel => exact ⟨a2, c2, y2, fun j => if j = kk then some y2.b else W j, rfl, rfl, by omega, hp2, by omega, (fun k h1 h2 => by
            by_cases hk : k = kk
            · subst hk; exact ⟨y2, HLA.out, by simp⟩
            · obtain ⟨y3, h3, h4⟩ := HWAY.out k (by omega) h2
              exact ⟨y3, h3, by simp [hk, h4]⟩), ⟨below_set HB.out hgw⟩, ⟨blk_far HP.out (by have := blk_ne HP.out HW.out (by decide); exact this) _⟩, ⟨by have h_ := blk_set HW.out kk (ptrV (some y2.b)); rw [rowV_set] at h_; exact h_⟩⟩
end Go.Proofs.Ytoglanahjlfihaa.MLst
