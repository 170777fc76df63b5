import Derived.Test.YtenmljkddhonmaaHMrg8
import Derived.Laws.EntriesVeiled
namespace Go.Proofs.Ytenmljkddhonmaa.MMrg
open Go.RowKit Go.Proofs.Ytenmljkddhonmaa.QMrg Go.Proofs.YtenmljkddhonmaaW.PrintWords Go.Proofs.YtenmljkddhonmaaW.PrintLast Go.Proofs.YtenmljkddhonmaaW.PrintMore
set_option linter.unusedVariables false
set_option linter.unusedSimpArgs false
theorem set_same {α : Type} (q : List α) {i : Nat} (hi : i < q.length) : q.set i q[i] = q := by
  apply List.ext_getElem?
  intro x
  rw [List.getElem?_set]
  by_cases h : i = x
  · subst h; rw [if_pos rfl, if_pos hi, List.getElem?_eq_getElem hi]
  · rw [if_neg h]
theorem swp_same {α : Type} (q : List α) {i : Nat} (hi : i < q.length) : swp q i i = q := by
  unfold swp
  rw [List.getElem?_eq_getElem hi]
  simp only
  rw [List.set_set, set_same q hi]
set_option maxHeartbeats 8000000 in
set_option maxRecDepth 100000 in
theorem queue_Swap_same.calls (w : World) (ask : Nat → Value) (b c : Nat) (q : List L28) (hq : QRow w ask b q) (hi : 0 < q.length) (w0 : World) (hB : Below w0.heap.size w0 w) (hb0 : w0.heap.size ≤ b) :
    Calls Try.prog 113 #[.slice (some ⟨b, 0, none⟩) q.length c, .int .i64 0, .int .i64 0] w fun e w' => e = .returned (.tuple #[]) ∧ QRow w' ask b (swp q 0 0) ∧ Kept w w' (fun k => k = b) ∧ Below w0.heap.size w0 w' := by
  have HQ := Aside0.mk hq
  have HB0 := Aside0.mk hB
  clear hB
  obtain ⟨a0, a1, a2, a3, a4, a5, a6⟩ := hq.cells hi
  simp only [Nat.zero_mul, Nat.zero_add] at a0 a1 a2 a3 a4 a5 a6
  have zi0 := hq.frozen 0
  have zi1 := hq.frozen 1
  have zi2 := hq.frozen 2
  have zi3 := hq.frozen 3
  have zi4 := hq.frozen 4
  have zi5 := hq.frozen 5
  have zi6 := hq.frozen 6
  obtain ⟨x, hx⟩ : ∃ x, Aside0 (x = q[0]) := ⟨_, ⟨rfl⟩⟩
  rw [← hx.out] at a0 a1 a2 a3 a4 a5 a6
  generalize hax : ask x.at_ = vx at a6
  have HAX := Aside0.mk hax
  have hi1 : ((0 : Int) < (q.length : Int)) = True := eq_true (by omega)
  have hi2 : (0 < q.length) = True := eq_true hi
  clear hq hax
  go_enter Try.func113, Try.ntmps113
  go_region
  all_goals
    go_end0
    have hax := HAX.out
    subst hax
    have h1 := HQ.out.put hi x
    have h2 := h1.put (i := 0) (by rw [List.length_set]; exact hi) x
    have he : (q.set 0 x).set 0 x = swp q 0 0 := by
      rw [swp_same q hi, List.set_set, hx.out, set_same q hi]
    rw [he] at h2
    have hk := Kept.then_ (put7_kept w ask b (0 * 7) x) (put7_kept (put7 w ask b (0 * 7) x) ask b (0 * 7) x) (fun k hk => .inl hk)
    have hbf := put7_below (l := x) (o := 0 * 7) (ask := ask) (put7_below (l := x) (o := 0 * 7) (ask := ask) HB0.out hb0) hb0
    refine ⟨rfl, ?_, ?_, ?_⟩
    · exact QRow.drew h2
    · exact Kept.drew hk
    · exact below_drew1 hbf
/-- The swap at a pop. -/
theorem queue_Swap_end.calls (w : World) (ask : Nat → Value) (b c : Nat) (q : List L28) (hq : QRow w ask b q) (hi : 0 < q.length) (w0 : World) (hB : Below w0.heap.size w0 w) (hb0 : w0.heap.size ≤ b) :
    Calls Try.prog 113 #[.slice (some ⟨b, 0, none⟩) q.length c, .int .i64 0, .int .i64 ((q.length - 1 : Nat) : Int)] w fun e w' => e = .returned (.tuple #[]) ∧ QRow w' ask b (swp q 0 (q.length - 1)) ∧ Kept w w' (fun k => k = b) ∧ Below w0.heap.size w0 w' := by
  by_cases h1 : q.length = 1
  · have := queue_Swap_same.calls w ask b c q hq hi w0 hB hb0
    rw [show q.length - 1 = 0 by omega]
    exact this
  · exact queue_Swap.calls w ask b c q 0 (q.length - 1) hq hi (by omega) (by omega) w0 hB hb0
theorem kOf_len {α : Type} (f : α → Nat) {q q' : List α} {x : Nat} (h : q[x]? = q'[x]?) : kOf f q x = kOf f q' x := by unfold kOf; rw [h]
/-- The heap behind a swap of its first and its last, the last left out: all in order but at 0. -/
theorem HeapFrom.swp_end {q : List L28} (h : HeapFrom (kOf Ln.r q) q.length 0) (hp : 0 < q.length) : Sift (kOf Ln.r (swp q 0 (q.length - 1))) (q.length - 1) 0 0 := by
  refine Sift.start (fun p c hps hc hcp => ?_)
  have e : ∀ x, 1 ≤ x → x < q.length - 1 → kOf Ln.r (swp q 0 (q.length - 1)) x = kOf Ln.r q x := by
    intro x h1 h2
    refine kOf_len _ ?_
    rw [swp_get q hp (by omega), if_neg (by omega), if_neg (by omega)]
  unfold Child at hcp
  rw [e p (by omega) (by omega), e c (by omega) hc]
  exact h p c (Nat.zero_le _) (by omega) hcp
theorem swp_end_drop {α : Type} (l : α) (q : List α) : (swp (l :: q) 0 q.length).drop q.length = [l] := by
  apply List.ext_getElem?
  intro x
  rw [List.getElem?_drop, swp_get (l :: q) (by simp) (by simp)]
  cases x with
  | zero => rw [if_pos (by omega)]; rfl
  | succ x =>
    rw [if_neg (by omega), if_neg (by omega), List.getElem?_eq_none (by simp)]
    rfl
theorem pop_perm {l : L28} {q q' : List L28} (h1 : q'.Perm (swp (l :: q) 0 q.length)) (h2 : q'.drop q.length = (swp (l :: q) 0 q.length).drop q.length) : (q'.take q.length).Perm q := by
  have h3 : q'.Perm (l :: q) := h1.trans (swp_perm _ _ _)
  rw [swp_end_drop] at h2
  have h4 : (q'.take q.length ++ [l]).Perm (q ++ [l]) := by
    have h5 : q'.take q.length ++ [l] = q' := by rw [← h2, List.take_append_drop]
    rw [h5]
    exact h3.trans (List.perm_append_singleton l q).symm
  exact (List.perm_append_right_iff [l]).1 h4
set_option maxHeartbeats 8000000 in
set_option maxRecDepth 100000 in
theorem heap_Pop.calls (w0 w : World) (ask : Nat → Value) (m b c : Nat) (l : L28) (q : List L28) (hq : QM w ask m b c (l :: q)) (hc : q.length + 1 ≤ c) (hql : q.length < 999999) (ha : Agree lessH (l :: q)) (hat : ∀ x ∈ l :: q, x.at_ < 1000000) (hh : HeapFrom (kOf Ln.r (l :: q)) (l :: q).length 0) (hB : Below w0.heap.size w0 w) (hb0 : w0.heap.size ≤ b) (hm0 : w0.heap.size ≤ m) :
    Calls Try.prog 39 #[.iface 78 (.pointer (some ⟨m, 0, none⟩))] w fun e w' => ∃ v q', e = .returned v ∧ QM w' ask m b c q' ∧ q'.Perm q ∧ HeapFrom (kOf Ln.r q') q'.length 0 ∧ Kept w w' (fun k => k = b ∨ k = m) ∧ Below w0.heap.size w0 w' := by
  have hlen : (l :: q).length = q.length + 1 := rfl
  have mL := mLen hq.cell
  have mS := mSwap hq.cell
  rw [hlen] at mL mS
  have HQ := Aside0.mk hq
  have HA := Aside0.mk ha
  have HAT := Aside0.mk hat
  have HH := Aside0.mk hh
  have HB := Aside0.mk hB
  have eL := eLen
  have eD := eDown
  have eS := eSwap
  have eP := ePop
  have hw : IntKind.i64.wrap (((q.length + 1 : Nat) : Int) - 1) = ((q.length : Nat) : Int) := by rw [IntKind.wrap_i64]; omega
  have hw2 : IntKind.i64.wrap ((q.length : Int) + 1 - 1) = ((q.length : Nat) : Int) := by rw [IntKind.wrap_i64]; omega
  have hcs := queue_Swap_end.calls w ask b c (l :: q) hq.2 (by simp) w0 hB hb0
  rw [hlen, Nat.add_sub_cancel] at hcs
  have HCS := Aside0.mk hcs
  clear hq ha hat hh hB hcs
  go_enter Try.func39, Try.ntmps39
  go_wp2_with (fail)
  refine (queue_Len.calls w _ _ _).mono ?_
  rintro e w' ⟨rfl, rfl⟩
  clear mL
  go_wp2_with (fail)
  refine HCS.out.mono ?_
  rintro e w2 ⟨rfl, h1, h2, h3⟩
  have hqm : QM w2 ask m b c (swp (l :: q) 0 q.length) := ⟨by rw [swp_len]; exact blk_kept HQ.out.1 h2 HQ.out.ne, h1⟩
  have hsf := _root_.Go.Proofs.Ytenmljkddhonmaa.MMrg.HeapFrom.swp_end HH.out (by simp)
  rw [hlen, Nat.add_sub_cancel] at hsf
  have hcd := heap_down.calls w0 w2 ask m b c (swp (l :: q) 0 q.length) 0 q.length hqm (by rw [swp_len, hlen]; omega) (by omega) (by omega) (by rw [swp_len, hlen]; omega) (HA.out.perm (swp_perm _ _ _)) (swp_at HAT.out) hsf h3 hb0
  have HCD := Aside0.mk hcd
  have HK2 := Aside0.mk h2
  clear h1 h2 h3 hqm hsf hcd mS
  go_wp2_with (fail)
  refine HCD.out.mono ?_
  rintro e w3 ⟨q', mv, rfl, h1, h2, h3, h4, h5, h6⟩
  have hl' : q'.length = q.length + 1 := by rw [h2.length_eq, swp_len]; rfl
  have hcp := queue_Pop.calls w0 w3 ask m b c q' h1 (by omega) (by omega) (by omega) h6 hm0
  rw [hl', Nat.add_sub_cancel] at hcp
  have HCP := Aside0.mk hcp
  have H2 := Aside0.mk (And.intro h2 h3)
  have H4 := Aside0.mk h4
  have H5 := Aside0.mk h5
  have mP := mPop2 ⟨m, 0, none⟩
  clear h1 h2 h3 h4 h5 h6 hcp hl'
  go_wp2_with (fail)
  refine HCP.out.mono ?_
  rintro e w4 ⟨v, rfl, g1, g2, g3⟩
  have G1 := Aside0.mk g1
  have G2 := Aside0.mk g2
  have G3 := Aside0.mk g3
  clear g1 g2 g3
  go_wp2_with (fail)
  go_ret
  refine ⟨v, q'.take q.length, rfl, G1.out, pop_perm H2.out.1 H2.out.2, ?_, ?_, G3.out⟩
  · have hl' : (q'.take q.length).length = q.length := (pop_perm H2.out.1 H2.out.2).length_eq
    rw [hl']
    exact H4.out.congr (fun x hx => kOf_len _ (by rw [List.getElem?_take_of_lt hx]))
  · exact (((HK2.out.mono (fun k hk => .inl hk)).then_ H5.out (fun k hk => .inl (.inl hk))).then_ G2.out (fun k hk => .inl (.inr hk)))
end Go.Proofs.Ytenmljkddhonmaa.MMrg
