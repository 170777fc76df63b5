/- It is proved that the law DropAgain of package incipitlaw23 returns true at every input: dropped again, nothing more goes. No conditions. -/
import Derived.Test.YtcijcfdllfaghaaMDrpx0
import Derived.Test.YtcijcfdllfaghaaMDrpx11
import Derived.Test.YtcijcfdllfaghaaMDrpx4
import Derived.Test.YtcijcfdllfaghaaMDrpx5
import Derived.Test.YtcijcfdllfaghaaQDrpDrpSpec
namespace Go.Proofs.Ytcijcfdllfaghaa.Pure
open Go.RowKit Go.Proofs.Ytcijcfdllfaghaa.MDrp Go.Proofs.Ytcijcfdllfaghaa.QDrp Go.Proofs.YtcijcfdllfaghaaW.PrintWords Go.Proofs.YtcijcfdllfaghaaW.PrintLast Go.Proofs.YtcijcfdllfaghaaW.PrintMore
set_option linter.unusedVariables false
set_option linter.unusedSimpArgs false
theorem gBegun_ev : Ev (fun k => incipitlaw23_begun.f k) true := Ev.of incipitlaw23_begun.mono (k := 12) (by decide +kernel)
theorem runB_again (snaps : List Int) : ∀ (t : List S23) (p q : S23), Dec (p :: t) → p.f1 ≤ q.f1 → runB snaps q (runB snaps p t) = runB snaps p t
  | [], p, q, _, _ => rfl
  | e :: t, p, q, h, hq => by
    obtain ⟨h1, h2⟩ := List.pairwise_cons.1 h
    have hpe := h1 e (by simp)
    rw [runB]
    cases hd : dseen snaps e.f1 p.f1 with
    | true =>
      rw [if_pos rfl, List.singleton_append, runB, if_pos (dseen_up hd hq), List.singleton_append, runB_again snaps t e e h2 (Int.le_refl _)]
    | false =>
      rw [if_neg (by simp), List.nil_append]
      exact runB_again snaps t e q h2 (by omega)
theorem runA_again (snaps : List Int) (g : List S23) (h : Dec g) : runA snaps (runA snaps g) = runA snaps g := by
  cases g with
  | nil => rfl
  | cons e t =>
    show e :: runB snaps e (runB snaps e t) = e :: runB snaps e t
    rw [runB_again snaps t e e h (Int.le_refl _)]
theorem vend_false' (snaps : List Int) : ∀ g : List S23, vend snaps false g = g
  | [] => rfl
  | [x] => by rw [vend, if_neg (by simp)]
  | x :: y :: t => by rw [vend, vend_false' snaps (y :: t)]
theorem flat_ne' (f : List S23 → List S23) (hf : f [] = []) : ∀ gs : List (List S23), (gs.filter (fun g => !g.isEmpty)).flatMap f = gs.flatMap f
  | [] => rfl
  | g :: t => by
    cases g with
    | nil => simp only [List.filter_cons, List.isEmpty_nil, Bool.not_true, Bool.false_eq_true, if_false, List.flatMap_cons, hf, List.nil_append]; exact flat_ne' f hf t
    | cons x u => simp only [List.filter_cons, List.isEmpty_cons, Bool.not_false, if_true, List.flatMap_cons]; rw [flat_ne' f hf t]
theorem flat_len' {f : List S23 → List S23} : ∀ gs : List (List S23), (∀ g ∈ gs, (f g).length ≤ g.length) → (gs.flatMap f).length ≤ gs.flatten.length
  | [], _ => Nat.le_refl _
  | g :: gs, h => by
    rw [List.flatMap_cons, List.flatten_cons, List.length_append, List.length_append]
    have := flat_len' gs (fun k hk => h k (List.mem_cons_of_mem _ hk))
    have := h g (List.mem_cons_self ..)
    omega
theorem sub_flat {f : List S23 → List S23} : ∀ gs : List (List S23), (∀ g ∈ gs, (f g).Sublist g) → (gs.flatMap f).Sublist gs.flatten
  | [], _ => List.Sublist.slnil
  | g :: gs, h => by
    rw [List.flatMap_cons, List.flatten_cons]
    exact (h g (List.mem_cons_self ..)).append (sub_flat gs (fun k hk => h k (List.mem_cons_of_mem _ hk)))
def nmE (i : Nat) : ByteArray := strOfNums [((97 + i : Nat) : Int)]
theorem nmE_lt : ∀ i j : Fin 10, i < j → Op.bytesLess (nmE i).toList (nmE j).toList = true ∧ (nmE i).toList ≠ (nmE j).toList := by decide +kernel
/-- The entries so far. -/
structure Acc (n : Nat) (acc : List S23) (i k : Nat) : Prop where
  srt : acc.Pairwise srtR
  at_ : ∀ x ∈ acc, ∃ i' k' : Nat, i' < 10 ∧ x.f0 = nmE i' ∧ x.f1 = ((k' * n + i' + 1 : Nat) : Int) ∧ (i' < i ∨ (i' = i ∧ k < k'))
theorem Acc.add {n : Nat} {acc : List S23} {i k : Nat} (h : Acc n acc i k) (hi : i < 10) (hn : 1 ≤ n) (kd : Int) (v w : ByteArray) : Acc n (acc ++ [⟨nmE i, ((k * n + i + 1 : Nat) : Int), kd, v, w⟩]) i (k - 1) ∨ k = 0 := by
  by_cases hk : k = 0
  · exact .inr hk
  left
  refine ⟨List.pairwise_append.2 ⟨h.srt, List.pairwise_singleton _ _, fun x hx y hy => ?_⟩, fun x hx => ?_⟩
  · simp only [List.mem_singleton] at hy
    subst hy
    obtain ⟨i', k', hi', e0, e1, h2⟩ := h.at_ x hx
    unfold srtR ltS lt3
    rw [e0, e1]
    rcases h2 with h2 | ⟨h2, h3⟩
    · obtain ⟨l1, l2⟩ := nmE_lt ⟨i', hi'⟩ ⟨i, hi⟩ h2
      simp only at l1 l2
      rw [if_neg l2]
      exact ⟨l1, fun z => l2 z.1⟩
    · subst h2
      have hm : (k + 1) * n ≤ k' * n := Nat.mul_le_mul_right n h3
      rw [Nat.add_mul, Nat.one_mul] at hm
      rw [if_pos rfl]
      generalize k' * n = A at hm ⊢
      generalize k * n = B at hm ⊢
      dsimp only
      rw [if_neg (by omega)]
      exact ⟨decide_eq_true (by omega), fun z => by omega⟩
  · rcases List.mem_append.1 hx with hx | hx
    · obtain ⟨i', k', hi', e0, e1, h2⟩ := h.at_ x hx
      refine ⟨i', k', hi', e0, e1, ?_⟩
      rcases h2 with h2 | ⟨h2, h3⟩
      · exact .inl h2
      · exact .inr ⟨h2, by omega⟩
    · simp only [List.mem_singleton] at hx
      subst hx
      exact ⟨i, k, hi, rfl, rfl, .inr ⟨rfl, by omega⟩⟩
theorem again_end (n m : Nat) (kinds : List Int) (snap : Int) (bottom : Bool) (l : List S23) (hl : l.length ≤ 200) (hs : l.Pairwise srtR) :
    Ev (fun k => (some (([snap] : List Int) : List Int)).bind fun y408 => ((drop_Entries.f k l y408 bottom).bind fun t411 => ((drop_Entries.f k t411 y408 bottom).bind fun t414 => (if (t411.length : Int) = (t414.length : Int) then ((drop_Seen.f k t411 snap).bind fun t417 => ((drop_Seen.f k l snap).bind fun t420 => (some ((t417.length : Int) == (t420.length : Int))))) else (some bottom))))) true := by
  have hR := grp_runs l hs
  have hsub : ((grp l).flatMap (stay [snap] bottom)).Sublist l := by
    have := sub_flat (f := stay [snap] bottom) (grp l) (fun g _ => stay_sub _ _ g)
    rwa [grp_flat] at this
  have hl2 := hsub.length_le
  have hs2 := hs.sublist hsub
  have hR2 := hR.map (stay [snap] bottom) (fun g _ => stay_sub [snap] bottom g)
  have hg2 : grp ((grp l).flatMap (stay [snap] bottom)) = ((grp l).map (stay [snap] bottom)).filter (fun g => !g.isEmpty) := by
    rw [show (grp l).flatMap (stay [snap] bottom) = ((grp l).map (stay [snap] bottom)).flatten from List.flatMap_def .., grp_of _ hR2]
  have hE1 := Entries_ev l [snap] bottom (by omega) hs
  have hE2 := Entries_ev _ [snap] bottom (by omega) hs2
  have hS1 := Seen_ev ((grp l).flatMap (stay [snap] bottom)) snap (by omega)
  have hS2 := Seen_ev l snap (by omega)
  have hview : (grp ((grp l).flatMap (stay [snap] bottom))).flatMap (seenG snap) = (grp l).flatMap (seenG snap) := by
    rw [hg2, flat_ne, List.flatMap_map]
    exact fm_congr _ (fun g hg => stay_seen bottom g (hR.dec g hg) (.inl (by simp)))
  rw [hview] at hS1
  simp only [Option.bind_some]
  refine Ev.bind hE1 (Ev.bind hE2 ?_)
  by_cases c : (((grp l).flatMap (stay [snap] bottom)).length : Int) = (((grp ((grp l).flatMap (stay [snap] bottom))).flatMap (stay [snap] bottom)).length : Int)
  · refine Ev.ite_pos c (Ev.bind hS1 (Ev.bind hS2 (Ev.same ?_)))
    simp
  · refine Ev.ite_neg c ?_
    cases bottom with
    | true => exact Ev.now _
    | false =>
      exfalso
      apply c
      have e : stay [snap] false = runA [snap] := by funext g; exact vend_false' _ _
      rw [hg2, e, flat_ne' (runA [snap]) rfl, List.flatMap_map]
      rw [fm_congr (f := fun g => runA [snap] (runA [snap] g)) (g := runA [snap]) (grp l) (fun g hg => runA_again [snap] g (hR.dec g hg))]
set_option maxHeartbeats 1000000 in
theorem again_l1 (n m : Nat) (hn : 1 ≤ n ∧ n ≤ 10) (hm : 1 ≤ m ∧ m ≤ 10) (kinds : List Int) (snap : Int) (bottom : Bool) (i : Nat) (hi : i < n)
    (next : ∀ acc : List S23, Acc n acc (i + 1) m → acc.length ≤ (i + 1) * m → Ev (fun k => incipitlaw23_DropAgain.l0 k (n : Int) (m : Int) kinds snap bottom acc ((i + 1 : Nat) : Int)) true) :
    ∀ (k : Nat) (acc : List S23), k ≤ m → Acc n acc i k → acc.length + k ≤ (i + 1) * m → Ev (fun q => incipitlaw23_DropAgain.l1 q (n : Int) (m : Int) kinds snap bottom acc (i : Int) (k : Int)) true := by
  have en : wrap64 ((i : Int) + 1) = ((i + 1 : Nat) : Int) := by rw [wrap64_id (by omega) (by omega)]; omega
  have h10 : (i + 1) * m ≤ 10 * 10 := Nat.mul_le_mul (by omega) (by omega)
  intro k
  induction k with
  | zero =>
    intro acc _ ha hl
    refine Ev.succ ?_
    simp only [incipitlaw23_DropAgain.l1, en]
    clear en
    refine Ev.ite_neg (by omega) (next acc ⟨ha.srt, fun x hx => ?_⟩ (by omega))
    obtain ⟨i', k', h1, h2, h3, h4⟩ := ha.at_ x hx
    exact ⟨i', k', h1, h2, h3, .inl (by omega)⟩
  | succ k ih =>
    intro acc hkm ha hl
    have ek : wrap64 (((k + 1 : Nat) : Int) - 1) = (k : Int) := by rw [wrap64_id (by omega) (by omega)]; omega
    have hkn : (k + 1) * n ≤ 10 * 10 := Nat.mul_le_mul (by omega) (by omega)
    have him : i * m ≤ 10 * 10 := Nat.mul_le_mul (by omega) (by omega)
    have ec : (wrap64 (97 + (i : Int))) % 256 = ((97 + i : Nat) : Int) := by rw [wrap64_id (by omega) (by omega)]; omega
    have es : wrap64 ((wrap64 ((wrap64 (((k + 1 : Nat) : Int) * (n : Int))) + (i : Int))) + 1) = (((k + 1) * n + i + 1 : Nat) : Int) := by
      have e0 : (((k + 1 : Nat) : Int) * (n : Int)) = (((k + 1) * n : Nat) : Int) := by rw [Int.natCast_mul]
      rw [e0]
      generalize (k + 1) * n = p at hkn ⊢
      clear ih ha next hl h10 e0 ec ek en
      rw [wrap64_id (n := (p : Int)) (by omega) (by omega), wrap64_id (n := (p : Int) + (i : Int)) (by omega) (by omega), wrap64_id (by omega) (by omega)]
      omega
    have ea : wrap64 ((wrap64 ((i : Int) * (m : Int))) + ((k + 1 : Nat) : Int)) = ((i * m + (k + 1) : Nat) : Int) := by
      have e0 : ((i : Int) * (m : Int)) = ((i * m : Nat) : Int) := by rw [Int.natCast_mul]
      rw [e0]
      clear ih ha next hl h10 e0 es hkn ec ek en
      generalize i * m = p at him ⊢
      rw [wrap64_id (n := (p : Int)) (by omega) (by omega), wrap64_id (by omega) (by omega)]
      omega
    have add : ∀ kd, Ev (fun q => incipitlaw23_DropAgain.l1 q (n : Int) (m : Int) kinds snap bottom (acc ++ [(⟨strOfNums [((97 + i : Nat) : Int)], (((k + 1) * n + i + 1 : Nat) : Int), kd, (⟨#[]⟩ : ByteArray), (⟨#[]⟩ : ByteArray)⟩ : S23)]) (i : Int) (k : Int)) true := by
      intro kd
      refine ih _ (by clear ek ec es ea en ih next; omega) ?_ (by clear ek ec es ea en ih next; rw [List.length_append, List.length_singleton]; omega)
      rcases ha.add (by clear ek ec es ea en ih next; omega) hn.1 kd (⟨#[]⟩ : ByteArray) (⟨#[]⟩ : ByteArray) with h | h
      · exact h
      · exact absurd h (Nat.succ_ne_zero k)
    refine Ev.succ ?_
    simp only [incipitlaw23_DropAgain.l1, ek, ec, es, ea, Option.bind_some]
    clear ek ec es ea en ih next ha hkn
    have hp0 : (0 : Int) ≤ ((i * m + (k + 1) : Nat) : Int) := Int.natCast_nonneg _
    have hal : acc.length < 2199023255552 := by clear add hp0; omega
    have hk1 : ((k + 1 : Nat) : Int) ≥ 1 := by clear add hp0 hal; omega
    refine Ev.ite_pos hk1 ?_
    by_cases c1 : ((i * m + (k + 1) : Nat) : Int) < (kinds.length : Int)
    · refine Ev.ite_pos c1 (Ev.ite_pos hp0 ?_)
      by_cases c2 : (Int.tmod (rd kinds ((i * m + (k + 1) : Nat) : Int)) 2) = 0
      · exact Ev.ite_pos c2 (Ev.ite_pos hal (add 0))
      · exact Ev.ite_neg c2 (Ev.ite_pos hal (add 1))
    · exact Ev.ite_neg c1 (Ev.ite_pos hal (add 1))
theorem again_l0 (n m : Nat) (hn : 1 ≤ n ∧ n ≤ 10) (hm : 1 ≤ m ∧ m ≤ 10) (kinds : List Int) (snap : Int) (bottom : Bool) (d : Nat) : ∀ (i : Nat) (acc : List S23), n - i = d → i ≤ n → Acc n acc i m → acc.length ≤ i * m → Ev (fun k => incipitlaw23_DropAgain.l0 k (n : Int) (m : Int) kinds snap bottom acc (i : Int)) true := by
  induction d with
  | zero =>
    intro i acc hd hi ha hl
    have h10 : i * m ≤ 10 * 10 := Nat.mul_le_mul (by omega) (by omega)
    refine Ev.succ ?_
    simp only [incipitlaw23_DropAgain.l0]
    exact Ev.ite_neg (by omega) (again_end n m kinds snap bottom acc (by omega) ha.srt)
  | succ d ih =>
    intro i acc hd hi ha hl
    refine Ev.succ ?_
    simp only [incipitlaw23_DropAgain.l0]
    refine Ev.ite_pos (by omega) (again_l1 n m hn hm kinds snap bottom i (by omega) (fun acc h1 h2 => ih (i + 1) acc (by omega) (by omega) h1 h2) m acc (Nat.le_refl _) ha ?_)
    rw [Nat.add_mul, Nat.one_mul]; omega
theorem DropAgain : incipitlaw23_DropAgain.Pure := by
  intro a0 a1 l2 a3 a4 _ _ _ _ _ _
  refine Ev.rounds (g := fun k => incipitlaw23_DropAgain.f k a0 a1 l2 a3 a4) ?_
  unfold incipitlaw23_DropAgain.f
  refine Ev.bind gBegun_ev (Ev.ite_pos rfl ?_)
  have yes : Ev (fun k => incipitlaw23_DropAgain.j0 k a0 a1 l2 a3 a4 true) true := by
    refine Ev.succ ?_
    simp only [incipitlaw23_DropAgain.j0]
    exact Ev.ite_pos trivial (Ev.now _)
  by_cases c0 : a0 < 1
  · exact Ev.ite_pos c0 yes
  refine Ev.ite_neg c0 ?_
  by_cases c1 : a0 > 10
  · exact Ev.ite_pos c1 yes
  refine Ev.ite_neg c1 ?_
  by_cases c2 : a1 < 1
  · exact Ev.ite_pos c2 yes
  refine Ev.ite_neg c2 ?_
  by_cases c3 : a1 > 10
  · rw [decide_eq_true c3]; exact yes
  rw [decide_eq_false c3]
  obtain ⟨n, rfl⟩ := Int.eq_ofNat_of_zero_le (show 0 ≤ a0 by omega)
  obtain ⟨m, rfl⟩ := Int.eq_ofNat_of_zero_le (show 0 ≤ a1 by omega)
  refine Ev.succ ?_
  simp only [incipitlaw23_DropAgain.j0]
  exact Ev.ite_neg (by simp) (again_l0 n m (by omega) (by omega) l2 a3 a4 n 0 [] rfl (by omega) ⟨List.Pairwise.nil, fun x hx => by cases hx⟩ (by simp))
end Go.Proofs.Ytcijcfdllfaghaa.Pure
