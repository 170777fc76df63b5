import Derived.Test.YtenmljkddhonmaaHMrg3
import Derived.Laws.EntriesVeiled
namespace Go.Proofs.Ytenmljkddhonmaa.MMrg
open Go.RowKit Go.Proofs.Ytenmljkddhonmaa.QMrg Go.Proofs.YtenmljkddhonmaaW.PrintWords Go.Proofs.YtenmljkddhonmaaW.PrintLast Go.Proofs.YtenmljkddhonmaaW.PrintMore
set_option linter.unusedVariables false
set_option linter.unusedSimpArgs false
theorem set7 (A B : List Value) (u0 u1 u2 u3 u4 u5 u6 v0 v1 v2 v3 v4 v5 v6 : Value) (o : Nat) (ho : A.length = o) : (((((((A ++ u0 :: u1 :: u2 :: u3 :: u4 :: u5 :: u6 :: B).set o v0).set (o + 1) v1).set (o + 2) v2).set (o + 3) v3).set (o + 4) v4).set (o + 5) v5).set (o + 6) v6 = A ++ v0 :: v1 :: v2 :: v3 :: v4 :: v5 :: v6 :: B := by
  subst ho
  simp [List.set_append]
/-- An element, stored. -/
def put7 (w : World) (ask : Nat → Value) (b o : Nat) (l : L28) : World := ((((((w.setCell ⟨b, o, none⟩ (.string l.e.f0)).setCell ⟨b, o + 1, none⟩ (.int .i64 l.e.f1)).setCell ⟨b, o + 2, none⟩ (.int .i64 l.e.f2)).setCell ⟨b, o + 3, none⟩ (.string l.e.f3)).setCell ⟨b, o + 4, none⟩ (.string l.e.f4)).setCell ⟨b, o + 5, none⟩ (.int .i64 (l.at_ : Int))).setCell ⟨b, o + 6, none⟩ (.func (Fn.method "Next") #[ask l.at_] #[])
theorem flat_split (ask : Nat → Value) (q : List L28) {i : Nat} (hi : i < q.length) : flat ask q = flat ask (q.take i) ++ (hc ask q[i] ++ flat ask (q.drop (i + 1))) := by
  unfold flat
  rw [← List.flatMap_cons, ← List.flatMap_append, ← List.drop_eq_getElem_cons hi, List.take_append_drop]
theorem flat_set (ask : Nat → Value) (q : List L28) {i : Nat} (hi : i < q.length) (x : L28) : flat ask (q.set i x) = flat ask (q.take i) ++ (hc ask x ++ flat ask (q.drop (i + 1))) := by
  unfold flat
  rw [List.set_eq_take_append_cons_drop, if_pos hi, List.flatMap_append, List.flatMap_cons]
theorem QRow.put {w : World} {ask : Nat → Value} {b : Nat} {q : List L28} (h : QRow w ask b q) {i : Nat} (hi : i < q.length) (x : L28) : QRow (put7 w ask b (i * 7) x) ask b (q.set i x) := by
  obtain ⟨tail, h⟩ := h
  refine ⟨tail, ?_⟩
  unfold put7
  rw [blk_set (blk_set (blk_set (blk_set (blk_set (blk_set (blk_set h _ _) _ _) _ _) _ _) _ _) _ _) _ _]
  simp only [List.setIfInBounds_toArray]
  rw [flat_set ask q hi x, flat_split ask q hi]
  unfold hc
  simp only [List.cons_append, List.nil_append, List.append_assoc]
  rw [set7 (flat ask (q.take i)) (flat ask (q.drop (i + 1)) ++ tail) _ _ _ _ _ _ _ _ _ _ _ _ _ _ (i * 7) (by rw [flat_len, List.length_take]; omega)]
theorem QRow.drew {w : World} {ask : Nat → Value} {b : Nat} {q : List L28} (h : QRow w ask b q) : QRow w.drew ask b q := by
  obtain ⟨tail, h⟩ := h
  exact ⟨tail, blk_drew h⟩
theorem put7_kept (w : World) (ask : Nat → Value) (b o : Nat) (l : L28) : Kept w (put7 w ask b o l) (fun k => k = b) := by
  have hS : ∀ (W : World) (x : Nat) (v : Value), Kept w W (fun k => k = b) → Kept w (W.setCell ⟨b, x, none⟩ v) (fun k => k = b) := fun W x v h => Kept.setCell (S := fun k => k = b) (p := ⟨b, x, none⟩) h (.inl rfl) v
  exact hS _ _ _ (hS _ _ _ (hS _ _ _ (hS _ _ _ (hS _ _ _ (hS _ _ _ (hS _ _ _ (Kept.refl w _)))))))
theorem put7_below {w0 w : World} {ask : Nat → Value} {b o : Nat} {l : L28} (h : Below w0.heap.size w0 w) (hb : w0.heap.size ≤ b) : Below w0.heap.size w0 (put7 w ask b o l) :=
  below_set (below_set (below_set (below_set (below_set (below_set (below_set h hb) hb) hb) hb) hb) hb) hb
theorem queue_Len.calls (w : World) (A : Option Addr) (n c : Nat) : Calls Try.prog 111 #[.slice A n c] w fun e w' => e = .returned (.int .i64 n) ∧ w' = w := by
  go_enter Try.func111, Try.ntmps111
  go_wp2_with (fail)
  go_ret
  exact ⟨rfl, rfl⟩
set_option maxHeartbeats 8000000 in
set_option maxRecDepth 100000 in
theorem queue_Less.calls (w : World) (ask : Nat → Value) (b c : Nat) (q : List L28) (i j : Nat) (hq : QRow w ask b q) (hi : i < q.length) (hj : j < q.length) (hat : ∀ l ∈ q, l.at_ < 1000000) :
    Calls Try.prog 112 #[.slice (some ⟨b, 0, none⟩) q.length c, .int .i64 i, .int .i64 j] w fun e w' => e = .returned (.bool (lessH q[i].e q[i].at_ q[j].e q[j].at_)) ∧ Below w.heap.size w w' := by
  have HQ := Aside0.mk hq
  have HAI := Aside0.mk (hat _ (List.getElem_mem hi))
  have HAJ := Aside0.mk (hat _ (List.getElem_mem hj))
  obtain ⟨a0, a1, a2, a3, a4, a5, _⟩ := hq.cells hi
  obtain ⟨b0, b1, b2, b3, b4, b5, _⟩ := hq.cells hj
  obtain ⟨x, hx⟩ : ∃ x, Aside0 (x = q[i]) := ⟨_, ⟨rfl⟩⟩
  obtain ⟨y, hy⟩ : ∃ y, Aside0 (y = q[j]) := ⟨_, ⟨rfl⟩⟩
  rw [← hx.out] at a0 a1 a2 a3 a4 a5 HAI ⊢
  rw [← hy.out] at b0 b1 b2 b3 b4 b5 HAJ ⊢
  obtain ⟨cc, hc, hclt, hceq⟩ := compare_f x.e y.e
  have HC := Aside0.mk hc
  have hi0 : ((0 : Int) ≤ (i : Int)) = True := eq_true (by omega)
  have hi1 : ((i : Int) < (q.length : Int)) = True := eq_true (by omega)
  have hi2 : (i < q.length) = True := eq_true hi
  have hj0 : ((0 : Int) ≤ (j : Int)) = True := eq_true (by omega)
  have hj1 : ((j : Int) < (q.length : Int)) = True := eq_true (by omega)
  have hj2 : (j < q.length) = True := eq_true hj
  clear hq hc hat
  go_enter Try.func112, Try.ntmps112
  go_upto_region 1 with (fail)
  go_cut [7] (fun s7 wc => s7 = .int .i64 cc ∧ Aside0 (Below w.heap.size w wc))
  case first =>
    go_region_law (first | (go_simp; go_at_call 82; (with_reducible refine (ikey_Compare.calls x.e.f0 x.e.f1 x.e.f2 x.e.f3 x.e.f4 y.e.f0 y.e.f1 y.e.f2 y.e.f3 y.e.f4 cc _ HC.out).mono ?_); rintro e w' ⟨rfl, hb⟩; have HB := Aside0.mk (below_step (below_drew1 (Below.refl _ _)) hb); clear hb))
    all_goals
      go_wp2_with (fail)
      go_meet
      case rel => exact ⟨rfl, HB⟩
  case rest =>
    clear a0 a1 a2 a3 a4 a5 b0 b1 b2 b3 b4 b5
    obtain ⟨rfl, HB⟩ := hcut
    obtain ⟨wr, hwr⟩ : ∃ wr, wr = wc := ⟨_, rfl⟩
    subst hwr
    obtain ⟨_, _, _, _, _, a5, _⟩ := (HQ.out.below HB.out).cells hi
    obtain ⟨_, _, _, _, _, b5, _⟩ := (HQ.out.below HB.out).cells hj
    rw [← hx.out] at a5
    rw [← hy.out] at b5
    have hl : lessH x.e x.at_ y.e y.at_ = if decide (cc = 0) then decide (x.at_ < y.at_) else decide (cc < 0) := by
      unfold lessH
      rw [hclt, hceq]
    by_cases h0 : cc = 0
    · have hl2 : lessH x.e x.at_ y.e y.at_ = decide ((x.at_ : Int) < (y.at_ : Int)) := by
        rw [hl, if_pos (by simpa using h0)]
        simp
      have HL := Aside0.mk hl2
      subst h0
      clear hl hl2 hclt hceq
      go_wp2_with (fail)
      go_quiet (fail)
      go_wp2_with (fail)
      go_ret
      exact ⟨by rw [HL.out]; simp, pw_below_drewN HB.out _⟩
    · have hl2 : lessH x.e x.at_ y.e y.at_ = decide (cc < 0) := by
        rw [hl, if_neg (by simpa using h0)]
      have HL := Aside0.mk hl2
      have h0a : (cc = 0) = False := eq_false h0
      have h0b : (cc == 0) = false := beq_eq_false_iff_ne.2 h0
      clear hl hl2 hclt hceq
      go_wp2_with (fail)
      go_ret
      exact ⟨by rw [HL.out]; rfl, HB.out⟩
set_option maxHeartbeats 8000000 in
set_option maxRecDepth 100000 in
theorem queue_Swap.calls (w : World) (ask : Nat → Value) (b c : Nat) (q : List L28) (i j : Nat) (hq : QRow w ask b q) (hi : i < q.length) (hj : j < q.length) (hne : i ≠ j) (w0 : World) (hB : Below w0.heap.size w0 w) (hb0 : w0.heap.size ≤ b) :
    Calls Try.prog 113 #[.slice (some ⟨b, 0, none⟩) q.length c, .int .i64 i, .int .i64 j] w fun e w' => e = .returned (.tuple #[]) ∧ QRow w' ask b (swp q i j) ∧ Kept w w' (fun k => k = b) ∧ Below w0.heap.size w0 w' := by
  have HQ := Aside0.mk hq
  have HB0 := Aside0.mk hB
  clear hB
  obtain ⟨a0, a1, a2, a3, a4, a5, a6⟩ := hq.cells hi
  obtain ⟨b0, b1, b2, b3, b4, b5, b6⟩ := hq.cells hj
  have zi0 := hq.frozen (i * 7)
  have zi1 := hq.frozen (i * 7 + 1)
  have zi2 := hq.frozen (i * 7 + 2)
  have zi3 := hq.frozen (i * 7 + 3)
  have zi4 := hq.frozen (i * 7 + 4)
  have zi5 := hq.frozen (i * 7 + 5)
  have zi6 := hq.frozen (i * 7 + 6)
  have zj0 := hq.frozen (j * 7)
  have zj1 := hq.frozen (j * 7 + 1)
  have zj2 := hq.frozen (j * 7 + 2)
  have zj3 := hq.frozen (j * 7 + 3)
  have zj4 := hq.frozen (j * 7 + 4)
  have zj5 := hq.frozen (j * 7 + 5)
  have zj6 := hq.frozen (j * 7 + 6)
  have ei0 : (i * 7 = j * 7) = False := eq_false (by omega)
  have ei1 : (i * 7 = j * 7 + 1) = False := eq_false (by omega)
  have fi1 : (i * 7 + 1 = j * 7) = False := eq_false (by omega)
  have ei2 : (i * 7 = j * 7 + 2) = False := eq_false (by omega)
  have fi2 : (i * 7 + 2 = j * 7) = False := eq_false (by omega)
  have ei3 : (i * 7 = j * 7 + 3) = False := eq_false (by omega)
  have fi3 : (i * 7 + 3 = j * 7) = False := eq_false (by omega)
  have ei4 : (i * 7 = j * 7 + 4) = False := eq_false (by omega)
  have fi4 : (i * 7 + 4 = j * 7) = False := eq_false (by omega)
  have ei5 : (i * 7 = j * 7 + 5) = False := eq_false (by omega)
  have fi5 : (i * 7 + 5 = j * 7) = False := eq_false (by omega)
  have ei6 : (i * 7 = j * 7 + 6) = False := eq_false (by omega)
  have fi6 : (i * 7 + 6 = j * 7) = False := eq_false (by omega)
  have ej0 : (j * 7 = i * 7) = False := eq_false (by omega)
  have ej1 : (j * 7 = i * 7 + 1) = False := eq_false (by omega)
  have fj1 : (j * 7 + 1 = i * 7) = False := eq_false (by omega)
  have ej2 : (j * 7 = i * 7 + 2) = False := eq_false (by omega)
  have fj2 : (j * 7 + 2 = i * 7) = False := eq_false (by omega)
  have ej3 : (j * 7 = i * 7 + 3) = False := eq_false (by omega)
  have fj3 : (j * 7 + 3 = i * 7) = False := eq_false (by omega)
  have ej4 : (j * 7 = i * 7 + 4) = False := eq_false (by omega)
  have fj4 : (j * 7 + 4 = i * 7) = False := eq_false (by omega)
  have ej5 : (j * 7 = i * 7 + 5) = False := eq_false (by omega)
  have fj5 : (j * 7 + 5 = i * 7) = False := eq_false (by omega)
  have ej6 : (j * 7 = i * 7 + 6) = False := eq_false (by omega)
  have fj6 : (j * 7 + 6 = i * 7) = False := eq_false (by omega)
  obtain ⟨x, hx⟩ : ∃ x, Aside0 (x = q[i]) := ⟨_, ⟨rfl⟩⟩
  obtain ⟨y, hy⟩ : ∃ y, Aside0 (y = q[j]) := ⟨_, ⟨rfl⟩⟩
  rw [← hx.out] at a0 a1 a2 a3 a4 a5 a6
  rw [← hy.out] at b0 b1 b2 b3 b4 b5 b6
  generalize hax : ask x.at_ = vx at a6
  generalize hay : ask y.at_ = vy at b6
  have HAX := Aside0.mk hax
  have HAY := Aside0.mk hay
  have hi0 : ((0 : Int) ≤ (i : Int)) = True := eq_true (by omega)
  have hi1 : ((i : Int) < (q.length : Int)) = True := eq_true (by omega)
  have hi2 : (i < q.length) = True := eq_true hi
  have hj0 : ((0 : Int) ≤ (j : Int)) = True := eq_true (by omega)
  have hj1 : ((j : Int) < (q.length : Int)) = True := eq_true (by omega)
  have hj2 : (j < q.length) = True := eq_true hj
  clear hq hax hay
  go_enter Try.func113, Try.ntmps113
  go_region
  all_goals
    go_end0
    have hax := HAX.out
    have hay := HAY.out
    subst hax
    subst hay
    have h1 := HQ.out.put hi y
    have h2 := h1.put (i := j) (by rw [List.length_set]; exact hj) x
    have he : (q.set i y).set j x = swp q i j := by
      unfold swp
      rw [List.getElem?_eq_getElem hi, List.getElem?_eq_getElem hj, hx.out, hy.out]
    rw [he] at h2
    have hk := Kept.then_ (put7_kept w ask b (i * 7) y) (put7_kept (put7 w ask b (i * 7) y) ask b (j * 7) x) (fun k hk => .inl hk)
    have hbf := put7_below (l := x) (o := j * 7) (ask := ask) (put7_below (l := y) (o := i * 7) (ask := ask) HB0.out hb0) hb0
    refine ⟨rfl, ?_, ?_, ?_⟩
    · exact QRow.drew h2
    · exact Kept.drew hk
    · exact below_drew1 hbf
end Go.Proofs.Ytenmljkddhonmaa.MMrg
