import Derived.Test.YtenmljkddhonmaaHMrg4
import Derived.Laws.EntriesVeiled
namespace Go.Proofs.Ytenmljkddhonmaa.MMrg
open Go.RowKit Go.Proofs.Ytenmljkddhonmaa.QMrg Go.Proofs.YtenmljkddhonmaaW.PrintWords Go.Proofs.YtenmljkddhonmaaW.PrintLast Go.Proofs.YtenmljkddhonmaaW.PrintMore
set_option linter.unusedVariables false
set_option linter.unusedSimpArgs false
theorem m266 : (266 : Nat) = Try.prog.types.size + 100 := by kernel_rfl
theorem mLen {w : World} {m : Nat} {v : Value} (h : w.cell? ⟨m, 0, none⟩ = some v) : (method 266 78 (.pointer (some ⟨m, 0, none⟩)) "Len").run Try.prog w = .ok (111, v) w := by
  rw [m266, mLen0]
  simp only [Sem.run_bind, load72 h, Sem.run_pure, Result.andThen_ok]
theorem mLess {w : World} {m : Nat} {v : Value} (h : w.cell? ⟨m, 0, none⟩ = some v) : (method 266 78 (.pointer (some ⟨m, 0, none⟩)) "Less").run Try.prog w = .ok (112, v) w := by
  rw [m266, mLess0]
  simp only [Sem.run_bind, load72 h, Sem.run_pure, Result.andThen_ok]
theorem mSwap {w : World} {m : Nat} {v : Value} (h : w.cell? ⟨m, 0, none⟩ = some v) : (method 266 78 (.pointer (some ⟨m, 0, none⟩)) "Swap").run Try.prog w = .ok (113, v) w := by
  rw [m266, mSwap0]
  simp only [Sem.run_bind, load72 h, Sem.run_pure, Result.andThen_ok]
theorem mPop2 (m : Addr) : ∀ w, (method 266 78 (.pointer (some m)) "Pop").run Try.prog w = .ok (114, .pointer (some m)) w := by
  rw [m266]; exact mPop m
theorem eLen : ∀ args w, (callFunc 111 args).run Try.prog w = .ok (.enter 111 args) w := enters_of Try.func111 (by kernel_rfl) rfl
theorem eLess : ∀ args w, (callFunc 112 args).run Try.prog w = .ok (.enter 112 args) w := enters_of Try.func112 (by kernel_rfl) rfl
theorem eSwap : ∀ args w, (callFunc 113 args).run Try.prog w = .ok (.enter 113 args) w := enters_of Try.func113 (by kernel_rfl) rfl
theorem ePop : ∀ args w, (callFunc 114 args).run Try.prog w = .ok (.enter 114 args) w := enters_of Try.func114 (by kernel_rfl) rfl
/-- A queue: where its slice stands, its row. -/
def QM (w : World) (ask : Nat → Value) (m b c : Nat) (q : List L28) : Prop := w.heap[m]? = some (.cells #[.slice (some ⟨b, 0, none⟩) q.length c] 74 (0, 0)) ∧ QRow w ask b q
theorem QM.cell {w : World} {ask : Nat → Value} {m b c : Nat} {q : List L28} (h : QM w ask m b c q) : w.cell? ⟨m, 0, none⟩ = some (.slice (some ⟨b, 0, none⟩) q.length c) := by
  rw [blk_cell h.1 0]; rfl
theorem QM.below {w w' : World} {ask : Nat → Value} {m b c : Nat} {q : List L28} (h : QM w ask m b c q) (hb : Below w.heap.size w w') : QM w' ask m b c q := ⟨blk_below h.1 hb, h.2.below hb⟩
theorem QM.ne {w : World} {ask : Nat → Value} {m b c : Nat} {q : List L28} (h : QM w ask m b c q) : m ≠ b := by
  obtain ⟨h1, tail, h2⟩ := h
  exact blk_ne h1 h2 (by decide)
theorem swp_drop {α : Type} (q : List α) {i j n : Nat} (hi : i < n) (hj : j < n) (hn : n ≤ q.length) : (swp q i j).drop n = q.drop n := by
  apply List.ext_getElem?
  intro x
  rw [List.getElem?_drop, List.getElem?_drop, swp_get q (by omega) (by omega), if_neg (by omega), if_neg (by omega)]
theorem swp_at {q : List L28} {i j : Nat} (hat : ∀ l ∈ q, l.at_ < 1000000) : ∀ l ∈ swp q i j, l.at_ < 1000000 := fun l hl => hat l ((swp_perm q i j).mem_iff.1 hl)
set_option maxHeartbeats 8000000 in
set_option maxRecDepth 100000 in
theorem heap_down.calls (w0 w : World) (ask : Nat → Value) (m b c : Nat) (q : List L28) (i0 n : Nat) (hq : QM w ask m b c q) (hn : n ≤ q.length) (hi : i0 < n ∨ n = 0) (hi6 : i0 < 1000000) (hql : q.length < 1000000) (ha : Agree lessH q) (hat : ∀ l ∈ q, l.at_ < 1000000) (hs : Sift (kOf Ln.r q) n i0 i0) (hB : Below w0.heap.size w0 w) (hb0 : w0.heap.size ≤ b) :
    Calls Try.prog 66 #[.iface 78 (.pointer (some ⟨m, 0, none⟩)), .int .i64 i0, .int .i64 n] w fun e w' => ∃ q' mv, e = .returned (.bool mv) ∧ QM w' ask m b c q' ∧ q'.Perm q ∧ q'.drop n = q.drop n ∧ HeapFrom (kOf Ln.r q') n i0 ∧ Kept w w' (fun k => k = b) ∧ Below w0.heap.size w0 w' := by
  have HQ := Aside0.mk hq
  have HA := Aside0.mk ha
  have HAT := Aside0.mk hat
  have HS := Aside0.mk hs
  have HB := Aside0.mk hB
  clear hq ha hat hs hB
  have eL := eLess
  have eS := eSwap
  go_enter Try.func66, Try.ntmps66
  go_wp2_with (fail)
  go_loopg [7] (q.length + 1) (fun kq s7 wr => ∃ (i : Nat) (q' : List L28), s7 = .int .i64 i ∧ q.length - i < kq ∧ (i < n ∨ n = 0) ∧ i < 1000000 ∧ Aside0 (q'.length = q.length) ∧ Aside0 (QM wr ask m b c q') ∧ Aside0 (q'.Perm q) ∧ Aside0 (q'.drop n = q.drop n) ∧ Aside0 (Sift (kOf Ln.r q') n i0 i) ∧ Aside0 (Kept w wr (fun k => k = b)) ∧ Aside0 (Below w0.heap.size w0 wr))
  case atStart => exact ⟨i0, q, rfl, by omega, hi, hi6, ⟨rfl⟩, HQ, ⟨List.Perm.refl _⟩, ⟨rfl⟩, HS, ⟨Kept.refl _ _⟩, HB⟩
  case round =>
    clear HQ HS HB
    obtain ⟨i, q', rfl, hik, hin, hi7, HL, HQ, HP, HD, HS, HK, HB⟩ := hrel
    cases gk with
    | zero => exact absurd hik (Nat.not_lt_zero _)
    | succ kk =>
    have hw1 : IntKind.i64.wrap (2 * (i : Int)) = 2 * (i : Int) := by rw [IntKind.wrap_i64]; omega
    have hw2 : IntKind.i64.wrap (2 * (i : Int) + 1) = 2 * (i : Int) + 1 := by rw [IntKind.wrap_i64]; omega
    by_cases hc1 : 2 * i + 1 < n
    · have hc1a : ((n : Int) ≤ 2 * (i : Int) + 1) = False := eq_false (by omega)
      have hc1b : (2 * (i : Int) + 1 < 0) = False := eq_false (by omega)
      have hw3 : IntKind.i64.wrap (2 * (i : Int) + 1 + 1) = 2 * (i : Int) + 2 := by rw [IntKind.wrap_i64]; omega
      have hin2 : i < n := by omega
      go_upto_region 4 with (fail)
      go_cut [9] (fun s9 wc => s9 = .int .i64 (2 * (i : Int) + 1) ∧ Aside0 (wr = wc))
      case first =>
        go_wp2_with (fail)
        go_meet
        case rel => exact ⟨rfl, ⟨rfl⟩⟩
      case rest =>
      obtain ⟨rfl, hwe⟩ := hcut
      have hwe2 := hwe.out
      subst hwe2
      clear hwe
      refine (by assumption : ∀ (a : Act) (w : World), Code.wp Try.prog (Code.seq (Code.seq (Code.region 5 _ _) _) _) _ a w → _) _ _ ?_
      refine wp_seq_k (fun K2 hK2 => ?_)
      go_cut [9] (fun s9 wc => ∃ j : Nat, s9 = .int .i64 j ∧ Child j i ∧ j < n ∧ (∀ x, x < n → Child x i → kOf Ln.r q' j ≤ kOf Ln.r q' x) ∧ Aside0 (Below wr.heap.size wr wc))
      case first =>
        by_cases hc2 : 2 * i + 2 < n
        · have hc2a : (2 * (i : Int) + 2 < (n : Int)) = True := eq_true (by omega)
          have mL := mLess HQ.out.cell
          have hag := (HA.out.perm HP.out).less (i := 2 * i + 2) (j := 2 * i + 1) (by rw [HL.out]; omega) (by rw [HL.out]; omega) (by omega)
          have hj2 : (((2 * i + 2 : Nat)) : Int) = 2 * (i : Int) + 2 := by push_cast; rfl
          have hj1 : (((2 * i + 1 : Nat)) : Int) = 2 * (i : Int) + 1 := by push_cast; rfl
          have hcl := queue_Less.calls wr ask b c q' (2 * i + 2) (2 * i + 1) HQ.out.2 (by rw [HL.out]; omega) (by rw [HL.out]; omega) (fun l hl => HAT.out l (HP.out.mem_iff.1 hl))
          rw [hag, hj2, hj1] at hcl
          have HCL := Aside0.mk hcl
          clear hcl hag hj2 hj1
          go_wp2_with (fail)
          refine HCL.out.mono ?_
          rintro e w' ⟨rfl, hb'⟩
          have HB2 := Aside0.mk hb'
          clear hb'
          by_cases hk : kOf Ln.r q' (2 * i + 2) < kOf Ln.r q' (2 * i + 1)
          · have hkt := decide_eq_true hk
            have HKT := Aside0.mk hk
            simp only [hkt]
            clear hk hkt
            go_wp2_with (fail)
            go_meet
            case rel => exact ⟨2 * i + 2, by push_cast; rfl, .inr rfl, hc2, (fun x hx hch => by
              have hkk := HKT.out
              rcases hch with rfl | rfl
              · exact Nat.le_of_lt hkk
              · exact Nat.le_refl _), HB2⟩
          · have hkt := decide_eq_false hk
            have HKT := Aside0.mk hk
            simp only [hkt]
            clear hk hkt
            go_wp2_with (fail)
            go_meet
            case rel => exact ⟨2 * i + 1, by push_cast; rfl, .inl rfl, hc1, (fun x hx hch => by
              have hkk := HKT.out
              rcases hch with rfl | rfl
              · exact Nat.le_refl _
              · exact Nat.le_of_not_lt hkk), HB2⟩
        · have hc2a : (2 * (i : Int) + 2 < (n : Int)) = False := eq_false (by omega)
          go_wp2_with (fail)
          go_meet
          case rel => exact ⟨2 * i + 1, by push_cast; rfl, .inl rfl, hc1, (fun x hx hch => by
            have : x = 2 * i + 1 := by unfold Child at hch; omega
            subst this; exact Nat.le_refl _), ⟨Below.refl _ _⟩⟩
      case rest =>
        obtain ⟨j, rfl, hji, hjn, hjm, HB2⟩ := hcut
        have HJM := Aside0.mk hjm
        clear hjm
        refine hK2 _ _ ?_
        have hqc := HQ.out.below HB2.out
        have HQC := Aside0.mk hqc
        have mL := mLess hqc.cell
        have hjne : j ≠ i := by unfold Child at hji; omega
        have hcl := queue_Less.calls wc ask b c q' j i hqc.2 (by rw [HL.out]; omega) (by rw [HL.out]; omega) (fun l hl => HAT.out l (HP.out.mem_iff.1 hl))
        rw [(HA.out.perm HP.out).less (i := j) (j := i) (by rw [HL.out]; omega) (by rw [HL.out]; omega) hjne] at hcl
        have HCL := Aside0.mk hcl
        clear hcl hqc
        go_wp2_with (fail)
        refine HCL.out.mono ?_
        rintro e w' ⟨rfl, hb'⟩
        have HB3 := Aside0.mk hb'
        clear hb' mL
        by_cases hk : kOf Ln.r q' j < kOf Ln.r q' i
        · have hkt := decide_eq_true hk
          have HKT := Aside0.mk hk
          simp only [hkt]
          clear hk hkt
          have hqd := HQC.out.below HB3.out
          have mS := mSwap hqd.cell
          have hbw : Below w0.heap.size w0 w' := below_step HB.out (below_step HB2.out HB3.out)
          have hcl := queue_Swap.calls w' ask b c q' i j hqd.2 (by rw [HL.out]; omega) (by rw [HL.out]; omega) (Ne.symm hjne) w0 hbw hb0
          have HCS := Aside0.mk hcl
          have HQD := Aside0.mk hqd
          clear hcl hqd hbw
          go_wp2_with (fail)
          refine HCS.out.mono ?_
          rintro e w2 ⟨rfl, hr2, hk2, hb2⟩
          have HR2 := Aside0.mk hr2
          have HK2 := Aside0.mk hk2
          have HB4 := Aside0.mk hb2
          clear hr2 hk2 hb2
          go_wp2_with (fail)
          have hqm : QM w2 ask m b c (swp q' i j) := ⟨by rw [swp_len]; exact blk_kept HQD.out.1 HK2.out HQD.out.ne, HR2.out⟩
          have hsf := (HS.out.step hji hjn HKT.out HJM.out).congr (fun x _ => kOf_swp Ln.r q' (by rw [HL.out]; omega) (by rw [HL.out]; omega) (Ne.symm hjne) x) hjn
          have hkk : Kept w w2 (fun k => k = b) := ((HK.out.below HB2.out).below HB3.out).then_ HK2.out (fun k hk => .inl hk)
          have hperm : (swp q' i j).Perm q := (swp_perm q' i j).trans HP.out
          have hdrop : (swp q' i j).drop n = q.drop n := (swp_drop q' hin2 hjn (by rw [HL.out]; exact hn)).trans HD.out
          have hlen : (swp q' i j).length = q.length := (swp_len q' i j).trans HL.out
          go_roundg kk
          case measure => omega
          case rel => exact ⟨j, swp q' i j, rfl, by unfold Child at hji; omega, .inl hjn, by omega, ⟨hlen⟩, ⟨hqm⟩, ⟨hperm⟩, ⟨hdrop⟩, ⟨hsf⟩, ⟨hkk⟩, HB4⟩
        · have hkt := decide_eq_false hk
          have HKT := Aside0.mk hk
          simp only [hkt]
          clear hk hkt
          go_wp2_with (fail)
          go_ret
          exact ⟨q', decide (i0 < i), rfl, HQC.out.below HB3.out, HP.out, HD.out, HS.out.stop (fun x hx hch => Nat.le_trans (Nat.le_of_not_lt HKT.out) (HJM.out x hx hch)), (HK.out.below HB2.out).below HB3.out, below_step HB.out (below_step HB2.out HB3.out)⟩
    · have hc1a : ((n : Int) ≤ 2 * (i : Int) + 1) = True := eq_true (by omega)
      go_wp2_with (fail)
      go_ret
      exact ⟨q', decide ((i0 : Int) < (i : Int)), by simp, HQ.out, HP.out, HD.out, HS.out.stop (fun x hx hch => by unfold Child at hch; omega), HK.out, HB.out⟩
end Go.Proofs.Ytenmljkddhonmaa.MMrg
