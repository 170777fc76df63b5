/- The reference's Get. -/
import Derived.Test.YtoglanahjlfihaaMBlkx3
import Derived.Test.YtoglanahjlfihaaQBlkGetV
namespace Go.Proofs.Ytoglanahjlfihaa.QBlk
open Go.RowKit Go.Proofs.Ytoglanahjlfihaa.MBlk Go.Proofs.Ytoglanahjlfihaa.QBlk Go.Proofs.YtoglanahjlfihaaW.PrintWords Go.Proofs.YtoglanahjlfihaaW.PrintLast Go.Proofs.YtoglanahjlfihaaW.PrintMore
set_option linter.unusedVariables false
set_option linter.unusedSimpArgs false
theorem val_cons (c : Int) (t : List Int) : val (c :: t) = (c % 128).toNat + 128 * val t := rfl
theorem drop_getD (l : List Int) (i : Nat) (h : i < l.length) : l.drop i = l.getD i 0 :: l.drop (i + 1) := by
  rw [List.drop_eq_getElem_cons h, List.getD_eq_getElem?_getD, List.getElem?_eq_getElem h]; rfl

/-- The number that the first k bytes make, read from behind. -/
theorem rGet_l1 (l : List Int) (hb : Bytes l) (k : Nat) (hk1 : 1 ≤ k) (hk : k ≤ 10) (hkl : k ≤ l.length) (hl : l.length ≤ 4611686018427387904) (hc : l.getD (k - 1) 0 ≤ 127) : ∀ (j : Nat) (x : Int), j ≤ k → x = (val ((l.take k).drop j) : Int) → (j = 0 → ¬ (k = 10 ∧ l.getD (k - 1) 0 > 1)) →
    Ev (fun q => incipitref1_Get.l1 q l (k : Int) x ((j : Int) - 1)) (if k = 10 ∧ l.getD (k - 1) 0 > 1 then (0, 0) else if k > 1 ∧ l.getD (k - 1) 0 = 0 then (0, 0) else ((val (l.take k) : Int), (k : Int))) := by
  intro j
  have hlen : (l.take k).length = k := by rw [List.length_take]; omega
  induction j with
  | zero =>
    intro x _ hx h0
    have h0 := h0 rfl
    rw [if_neg h0]
    refine Ev.succ ?_
    simp only [incipitref1_Get.l1]
    refine Ev.ite_neg (by omega) ?_
    rw [List.drop_zero] at hx
    subst hx
    rw [wrap64_id (n := (k : Int) - 1) (by omega) (by omega), show (k : Int) - 1 = ((k - 1 : Nat) : Int) by omega, rd_nat]
    by_cases c1 : k > 1
    · refine Ev.ite_pos (by omega) (Ev.ite_pos (by omega) (Ev.ite_pos (by omega) ?_))
      by_cases c2 : l.getD (k - 1) 0 = 0
      · rw [if_pos (⟨c1, c2⟩ : k > 1 ∧ l.getD (k - 1) 0 = 0)]; exact Ev.ite_pos c2 (Ev.now _)
      · rw [if_neg (fun h : k > 1 ∧ l.getD (k - 1) 0 = 0 => c2 h.2)]; exact Ev.ite_neg c2 (Ev.now _)
    · rw [if_neg (fun h : k > 1 ∧ l.getD (k - 1) 0 = 0 => c1 h.1)]; exact Ev.ite_neg (by omega) (Ev.now _)
  | succ j ih =>
    intro x hj hx _
    have hg := hb.getD j
    have hlt := val_lt ((l.take k).drop (j + 1))
    rw [List.length_drop, hlen] at hlt
    -- the bound is passed at the last step alone, by ten bytes
    have hbig : val ((l.take k).drop (j + 1)) ≥ 144115188075855872 ↔ (j = 0 ∧ k = 10 ∧ l.getD (k - 1) 0 > 1) := by
      by_cases h8 : k - (j + 1) ≤ 8
      · have : 128 ^ (k - (j + 1)) ≤ 128 ^ 8 := Nat.pow_le_pow_right (by decide) h8
        have e : (128 : Nat) ^ 8 = 72057594037927936 := by decide
        constructor
        · intro h; omega
        · intro h; omega
      · have hj0 : j = 0 := by omega
        have hk10 : k = 10 := by omega
        subst hj0; subst hk10
        have e8 := val_take_succ ((l.take 10).drop 1) 8 (by rw [List.length_drop, hlen]; omega)
        have et : ((l.take 10).drop 1).take 9 = (l.take 10).drop 1 := List.take_of_length_le (by rw [List.length_drop, hlen]; omega)
        have h8' := val_lt (((l.take 10).drop 1).take 8)
        rw [List.length_take, List.length_drop, hlen] at h8'
        have eg : ((l.take 10).drop 1).getD 8 0 = l.getD 9 0 := by
          rw [List.getD_eq_getElem?_getD, List.getD_eq_getElem?_getD, List.getElem?_drop, List.getElem?_take, if_pos (by omega)]
        rw [show 8 + 1 = 9 from rfl, et, eg] at e8
        have hg9 := hb.getD 9
        have e : (128 : Nat) ^ 8 = 72057594037927936 := by decide
        rw [show min 8 (10 - 1) = 8 from rfl, e] at h8'
        rw [e] at e8
        simp only [Nat.zero_add, show 10 - 1 = 9 from rfl] at hc ⊢
        rw [e8]
        have e9 : (l.getD 9 0 % 128).toNat = (l.getD 9 0).toNat := by omega
        rw [e9]
        generalize val (((l.take 10).drop 1).take 8) = d at *
        clear e8
        generalize hm : (l.getD 9 0).toNat = m
        have e10 : (m : Int) = l.getD 9 0 := by omega
        rw [← e10]
        constructor
        · intro h; exact ⟨trivial, trivial, by omega⟩
        · intro h; have := h.2.2; omega
    refine Ev.succ ?_
    simp only [incipitref1_Get.l1]
    rw [show ((j + 1 : Nat) : Int) - 1 = (j : Int) by omega]
    refine Ev.ite_pos (by omega) ?_
    by_cases cb : x ≥ 144115188075855872
    · obtain ⟨b1, b2, b3⟩ := hbig.1 (by omega)
      rw [if_pos (⟨b2, b3⟩ : k = 10 ∧ l.getD (k - 1) 0 > 1)]
      exact Ev.ite_pos cb (Ev.now _)
    · refine Ev.ite_neg cb (Ev.ite_pos (by omega) (Ev.ite_pos (by omega) ?_))
      have ht : Int.tmod (l.getD j 0) 128 = l.getD j 0 % 128 := Int.tmod_eq_emod_of_nonneg hg.1
      rw [rd_nat, ht, u64_id (n := x * 128) (by omega) (by omega), u64_id (n := l.getD j 0 % 128) (by omega) (by omega), u64_id (by omega) (by omega), wrap64_id (by omega) (by omega)]
      refine ih _ (by omega) ?_ (fun h0 h => ?_)
      · have egd : (l.take k).getD j 0 = l.getD j 0 := by
          rw [List.getD_eq_getElem?_getD, List.getD_eq_getElem?_getD, List.getElem?_take, if_pos (by omega)]
        rw [drop_getD (l.take k) j (by omega), val_cons, egd]
        omega
      · exact cb (by have := hbig.2 ⟨h0, h.1, h.2⟩; omega)

theorem take10_getD (l : List Int) (i : Nat) (h : i < 10) : (l.take 10).getD i 0 = l.getD i 0 := by
  rw [List.getD_eq_getElem?_getD, List.getD_eq_getElem?_getD, List.getElem?_take, if_pos h]

theorem rGet_l0 (l : List Int) (hb : Bytes l) (hl : l.length ≤ 4611686018427387904) (d : Nat) : ∀ i : Nat, 11 - i = d → i ≤ 10 → i ≤ l.length → Ev (fun q => incipitref1_Get.l0 q l ((i : Int) + 1)) (getG (l.take 10) i) := by
  induction d with
  | zero => intro i hd hi _; omega
  | succ d ih =>
    intro i hd hi hil
    have hlen : (l.take 10).length = min 10 l.length := List.length_take ..
    by_cases c : i < 10 ∧ i < l.length
    · obtain ⟨c1, c2⟩ := c
      refine Ev.succ ?_
      simp only [incipitref1_Get.l0]
      refine Ev.ite_pos (by omega) (Ev.succ ?_)
      simp only [incipitref1_Get.j1]
      rw [wrap64_id (n := (i : Int) + 1 - 1) (by omega) (by omega), wrap64_id (n := (i : Int) + 1 + 1) (by omega) (by omega), show (i : Int) + 1 - 1 = (i : Int) by omega, rd_nat]
      refine Ev.ite_pos (by simp; omega) (Ev.ite_pos (by omega) (Ev.ite_pos (by omega) ?_))
      by_cases h1 : l.getD i 0 ≥ 128
      · rw [getG_step (l := l.take 10) (by omega) (by rw [take10_getD l i c1]; omega)]
        exact Ev.ite_pos h1 (ih (i + 1) (by omega) (by omega) (by omega))
      · refine Ev.ite_neg h1 ?_
        have h := rGet_l1 l hb (i + 1) (by omega) (by omega) (by omega) hl (by rw [Nat.add_sub_cancel]; omega) (i + 1) 0 (Nat.le_refl _) (by rw [List.drop_of_length_le (by rw [List.length_take]; omega)]; rfl) (fun h => by omega)
        rw [show ((i + 1 : Nat) : Int) - 1 = (i : Int) by omega, show ((i + 1 : Nat) : Int) = (i : Int) + 1 by omega, Nat.add_sub_cancel] at h
        have e : getG (l.take 10) i = (if i + 1 = 10 ∧ l.getD i 0 > 1 then (0, 0) else if i + 1 > 1 ∧ l.getD i 0 = 0 then (0, 0) else ((val (l.take (i + 1)) : Int), (i : Int) + 1)) := by
          rw [getG, if_pos (by omega), take10_getD l i c1, if_neg (by omega), List.take_take, Nat.min_eq_left (by omega)]
          by_cases a1 : i = 9 ∧ l.getD i 0 > 1
          · rw [if_pos (Or.inr a1), if_pos (by omega)]
          · by_cases a2 : i > 0 ∧ l.getD i 0 = 0
            · rw [if_pos (Or.inl a2), if_neg (by omega), if_pos (by omega)]
            · rw [if_neg (by omega), if_neg (by omega), if_neg (by omega)]
        rw [e]
        exact h
    · rw [getG_none (by omega)]
      refine Ev.succ ?_
      simp only [incipitref1_Get.l0]
      by_cases c1 : (i : Int) + 1 ≤ 10
      · refine Ev.ite_pos c1 (Ev.succ ?_)
        simp only [incipitref1_Get.j1]
        exact Ev.ite_neg (by simp; omega) (Ev.now _)
      · refine Ev.ite_neg c1 (Ev.succ ?_)
        simp only [incipitref1_Get.j1]
        exact Ev.ite_neg (by simp) (Ev.now _)

theorem rGet_ev {l : List Int} (hb : Bytes l) (hl : l.length ≤ 4611686018427387904) : Ev (fun q => incipitref1_Get.f q l) (get l) :=
  rGet_l0 l hb hl 11 0 rfl (by omega) (by omega)
end Go.Proofs.Ytoglanahjlfihaa.QBlk
