/- It is proved that the law EntryVersions of package incipitlaw7 returns true at every input: of one key's versions that one is found which stood at the number. No conditions. -/
import Derived.Test.YtcijcfdllfaghaaMEntx0
import Derived.Test.YtcijcfdllfaghaaMEntx2
import Derived.Test.YtcijcfdllfaghaaMEntx3
import Derived.Test.YtcijcfdllfaghaaMEntx5
import Derived.Test.YtcijcfdllfaghaaMEntx7
import Derived.Test.YtcijcfdllfaghaaQEntEntOrd
import Derived.Test.YtcijcfdllfaghaaQEntBsearch
namespace Go.Proofs.Ytcijcfdllfaghaa.Pure
open Go.RowKit Go.Proofs.Ytcijcfdllfaghaa.MEnt Go.Proofs.Ytcijcfdllfaghaa.QEnt Go.Proofs.YtcijcfdllfaghaaW.PrintWords Go.Proofs.YtcijcfdllfaghaaW.PrintLast Go.Proofs.YtcijcfdllfaghaaW.PrintMore
set_option linter.unusedVariables false
set_option linter.unusedSimpArgs false
def ent (s i : Nat) : S23 := ⟨(⟨#[107]⟩ : ByteArray), ((i * s : Nat) : Int), 1, (⟨#[]⟩ : ByteArray), (⟨#[]⟩ : ByteArray)⟩
def vers (s : Nat) : Nat → List S23
  | 0 => []
  | n + 1 => ent s (n + 1) :: vers s n
theorem vers_length (s : Nat) : ∀ n, (vers s n).length = n
  | 0 => rfl
  | n + 1 => by simp [vers, vers_length s n]
theorem vers_get (s : Nat) (z : S23) : ∀ n i, i < n → (vers s n).getD i z = ent s (n - i)
  | 0, i, h => by omega
  | n + 1, 0, h => by simp [vers]
  | n + 1, i + 1, h => by
    simp only [vers, List.getD_cons_succ]
    rw [vers_get s z n i (by omega), Nat.add_sub_add_right]
theorem vers_rd (s n i : Nat) (h : i < n) : rd_T23 (vers s n) (i : Int) = ent s (n - i) := by
  unfold rd_T23; rw [Int.toNat_natCast]; exact vers_get s _ n i h
theorem less_ent {s i j : Nat} (h : j * s < i * s) : incipitref12_Less.f (ent s i).f0 (ent s i).f1 (ent s i).f2 (ent s i).f3 (ent s i).f4 (ent s j).f0 (ent s j).f1 (ent s j).f2 (ent s j).f3 (ent s j).f4 = some true := by
  unfold incipitref12_Less.f ent
  simp only [if_true]
  rw [if_neg (by omega), decide_eq_true (by omega)]
theorem less_ent' {s i j : Nat} (h : j * s < i * s) : ikey_Less.f (ent s i).f0 (ent s i).f1 (ent s i).f2 (ent s i).f3 (ent s i).f4 (ent s j).f0 (ent s j).f1 (ent s j).f2 (ent s j).f3 (ent s j).f4 = some true := by
  obtain ⟨r, h1, h2⟩ := Less_eq (ent s i).f0 (ent s i).f1 (ent s i).f2 (ent s i).f3 (ent s i).f4 (ent s j).f0 (ent s j).f1 (ent s j).f2 (ent s j).f3 (ent s j).f4
  rw [less_ent h] at h2
  rw [h1]; exact h2.symm
theorem step_lt {s n i : Nat} (hs : 1 ≤ s) (h : 1 ≤ i) (h2 : i < n) : (n - i) * s < (n - (i - 1)) * s := Nat.mul_lt_mul_of_pos_right (by omega) hs

theorem sorted_l0 (s n : Nat) (hs : 1 ≤ s) (hn : n ≤ 30) (d : Nat) : ∀ i : Nat, n - i = d → 1 ≤ i → Ev (fun k => ikey_Sorted.l0 k (vers s n) (i : Int)) true := by
  induction d with
  | zero =>
    intro i hd hi
    refine Ev.succ ?_
    simp only [ikey_Sorted.l0]
    exact Ev.ite_neg (by rw [vers_length]; omega) (Ev.now _)
  | succ d ih =>
    intro i hd hi
    have ei : wrap64 ((i : Int) - 1) = ((i - 1 : Nat) : Int) := by rw [wrap64_id (by omega) (by omega)]; omega
    refine Ev.succ ?_
    simp only [ikey_Sorted.l0, ei, vers_length, vers_rd s n i (by omega), vers_rd s n (i - 1) (by omega), less_ent' (step_lt hs hi (show i < n by omega)), Option.bind_some]
    refine Ev.ite_pos (by omega) (Ev.ite_pos (by omega) (Ev.ite_pos (by omega) (Ev.ite_pos (by omega) ?_)))
    simp only [if_true]
    rw [wrap64_id (n := (i : Int) + 1) (by omega) (by omega)]
    exact ih (i + 1) (by omega) (by omega)
theorem rsorted_l0 (s n : Nat) (hs : 1 ≤ s) (hn : n ≤ 30) (d : Nat) : ∀ i : Nat, n - i = d → 1 ≤ i → Ev (fun k => incipitref12_Sorted.l0 k (vers s n) (i : Int)) true := by
  induction d with
  | zero =>
    intro i hd hi
    refine Ev.succ ?_
    simp only [incipitref12_Sorted.l0]
    exact Ev.ite_neg (by rw [vers_length]; omega) (Ev.now _)
  | succ d ih =>
    intro i hd hi
    have ei : wrap64 ((i : Int) - 1) = ((i - 1 : Nat) : Int) := by rw [wrap64_id (by omega) (by omega)]; omega
    refine Ev.succ ?_
    simp only [incipitref12_Sorted.l0, ei, vers_length, vers_rd s n i (by omega), vers_rd s n (i - 1) (by omega), less_ent (step_lt hs hi (show i < n by omega)), Option.bind_some]
    refine Ev.ite_pos (by omega) (Ev.ite_pos (by omega) (Ev.ite_pos (by omega) (Ev.ite_pos (by omega) ?_)))
    simp only [if_true]
    rw [wrap64_id (n := (i : Int) + 1) (by omega) (by omega)]
    exact ih (i + 1) (by omega) (by omega)

/-- How many versions stand at or below a number. -/
def below (s : Nat) (q : Int) : Nat → Nat
  | 0 => 0
  | n + 1 => if (((n + 1) * s : Nat) : Int) ≤ q then n + 1 else below s q n
theorem below_le (s : Nat) (q : Int) : ∀ n, below s q n ≤ n
  | 0 => Nat.le_refl _
  | n + 1 => by
    have := below_le s q n
    unfold below; split <;> omega
theorem below_iff (s : Nat) (q : Int) (n i : Nat) (h1 : 1 ≤ i) (h2 : i ≤ n) : ((i * s : Nat) : Int) ≤ q ↔ i ≤ below s q n := by
  induction n with
  | zero => omega
  | succ n ih =>
    unfold below
    by_cases c : (((n + 1) * s : Nat) : Int) ≤ q
    · rw [if_pos c]
      refine ⟨fun _ => h2, fun _ => ?_⟩
      have : i * s ≤ (n + 1) * s := Nat.mul_le_mul_right s h2
      omega
    · rw [if_neg c]
      by_cases e : i = n + 1
      · subst e
        have := below_le s q n
        exact ⟨fun z => absurd z c, fun z => by omega⟩
      · exact ih (by omega)
theorem find_k (s n : Nat) (q : Int) (hn : n ≤ 30) : ikey_Find.f (vers s n) (⟨#[107]⟩ : ByteArray) q = if 1 ≤ below s q n then some ((⟨#[107]⟩ : ByteArray), ((below s q n * s : Nat) : Int), 1, (⟨#[]⟩ : ByteArray), (⟨#[]⟩ : ByteArray), true) else some ((⟨#[]⟩ : ByteArray), 0, 0, (⟨#[]⟩ : ByteArray), (⟨#[]⟩ : ByteArray), false) := by
  have hb := below_le s q n
  have hbs : bsearch (findAt (vers s n) (⟨#[107]⟩ : ByteArray) q) n 0 n = n - below s q n := by
    refine bsearch_eq _ _ n 0 n (by omega) (by omega) (by omega) (fun i _ hi => ?_)
    have hw := below_iff s q n (n - i) (by omega) (by omega)
    unfold findAt
    rw [vers_rd s n i hi]
    have e1 : (ent s (n - i)).f0.toList = (⟨#[107]⟩ : ByteArray).toList := rfl
    have e2 : (ent s (n - i)).f1 = (((n - i) * s : Nat) : Int) := rfl
    rw [e1, e2]
    simp only [beq_self_eq_true, Bool.or_true, Bool.not_true, Bool.false_or, Bool.true_and, decide_eq_true_eq]
    rw [hw]; omega
  unfold ikey_Find.f
  rw [vers_length, if_pos (by omega), hbs]
  by_cases c : 1 ≤ below s q n
  · rw [if_pos c, if_pos (by omega), vers_rd s n _ (by omega), show n - (n - below s q n) = below s q n by omega]
    rw [if_pos (show (ent s (below s q n)).f0.toList = (⟨#[107]⟩ : ByteArray).toList from rfl)]; rfl
  · rw [if_neg c, if_neg (by omega)]
theorem find_j (s n : Nat) (q : Int) (hn : n ≤ 30) : ikey_Find.f (vers s n) (⟨#[106]⟩ : ByteArray) q = some ((⟨#[]⟩ : ByteArray), 0, 0, (⟨#[]⟩ : ByteArray), (⟨#[]⟩ : ByteArray), false) := by
  have hbs : bsearch (findAt (vers s n) (⟨#[106]⟩ : ByteArray) q) n 0 n = 0 := by
    refine bsearch_eq _ _ n 0 n (by omega) (by omega) (by omega) (fun i _ hi => ?_)
    unfold findAt
    rw [vers_rd s n i hi]
    have e1 : Op.bytesLess (ent s (n - i)).f0.toList (⟨#[106]⟩ : ByteArray).toList = false := by
      show Op.bytesLess (⟨#[107]⟩ : ByteArray).toList (⟨#[106]⟩ : ByteArray).toList = false
      decide +kernel
    have e2 : ((ent s (n - i)).f0.toList == (⟨#[106]⟩ : ByteArray).toList) = false := by
      show ((⟨#[107]⟩ : ByteArray).toList == (⟨#[106]⟩ : ByteArray).toList) = false
      decide +kernel
    rw [e1, e2]; simp
  unfold ikey_Find.f
  rw [vers_length, if_pos (by omega), hbs]
  by_cases c : 0 < n
  · rw [if_pos c, vers_rd s n 0 c]
    have e2 : ¬ (ent s (n - 0)).f0.toList = (⟨#[106]⟩ : ByteArray).toList := by
      show ¬ (⟨#[107]⟩ : ByteArray).toList = (⟨#[106]⟩ : ByteArray).toList
      decide +kernel
    rw [if_neg e2]
  · rw [if_neg c]

theorem want_l1 (s n : Nat) (q : Int) (hs : 1 ≤ s) (hs2 : s ≤ 1000) (hn : n ≤ 30) (b0 : ByteArray) (b2 : Int) (b3 b4 : ByteArray) (d : Nat) : ∀ i : Nat, n + 1 - i = d → 1 ≤ i → i ≤ n + 1 →
    Ev (fun k => incipitlaw7_EntryVersions.l1 k (n : Int) (s : Int) q (vers s n) (decide (1 ≤ below s q n)) false ((below s q (i - 1) * s : Nat) : Int) (i : Int) b0 ((below s q n * s : Nat) : Int) b2 b3 b4) true := by
  induction d with
  | zero =>
    intro i hd h1 h2
    obtain rfl : i = n + 1 := by omega
    refine Ev.succ ?_
    simp only [incipitlaw7_EntryVersions.l1, Nat.add_sub_cancel]
    refine Ev.ite_neg (by omega) (Ev.ite_neg (by simp) (Ev.ite_pos ?_ (Ev.ite_pos trivial ?_)))
    · have : decide (1 ≤ below s q n) = decide (((below s q n * s : Nat) : Int) > 0) := by
        by_cases c : 1 ≤ below s q n
        · have : 0 < below s q n * s := Nat.mul_pos c hs
          rw [decide_eq_true c, decide_eq_true (by omega)]
        · have e : below s q n = 0 := by omega
          rw [decide_eq_false c, e, Nat.zero_mul]; rfl
      rw [this, beq_self_eq_true]
    · refine Ev.bind (rsorted_l0 s n hs hn _ 1 rfl (by omega)) (Ev.ite_pos rfl (Ev.bind (sorted_l0 s n hs hn _ 1 rfl (by omega)) (Ev.now _)))
  | succ d ih =>
    intro i hd h1 h2
    have hm : i * s ≤ 30 * 1000 := Nat.mul_le_mul (by omega) hs2
    have hw : wrap64 ((i : Int) * (s : Int)) = ((i * s : Nat) : Int) := by
      rw [show (i : Int) * (s : Int) = ((i * s : Nat) : Int) by simp, wrap64_id (by omega) (by omega)]
    have hn1 := ih (i + 1) (by omega) (by omega) (by omega)
    rw [Nat.add_sub_cancel] at hn1
    have hbi : below s q i = if ((i * s : Nat) : Int) ≤ q then i else below s q (i - 1) := by
      obtain ⟨j, rfl⟩ : ∃ j, i = j + 1 := ⟨i - 1, by omega⟩
      simp only [below, Nat.add_sub_cancel]
    refine Ev.succ ?_
    simp only [incipitlaw7_EntryVersions.l1, hw]
    rw [wrap64_id (n := (i : Int) + 1) (by omega) (by omega)]
    refine Ev.ite_pos (by omega) ?_
    by_cases c : ((i * s : Nat) : Int) ≤ q
    · rw [if_pos c] at hbi
      rw [hbi] at hn1
      exact Ev.ite_pos c hn1
    · rw [if_neg c] at hbi
      rw [hbi] at hn1
      exact Ev.ite_neg c hn1
theorem make_l0 (s n : Nat) (q : Int) (hs : 1 ≤ s) (hs2 : s ≤ 1000) (hn : n ≤ 30) : ∀ (i : Nat) (acc : List S23), i ≤ n → acc.length + i = n → acc ++ vers s i = vers s n → Ev (fun k => incipitlaw7_EntryVersions.l0 k (n : Int) (s : Int) q acc (i : Int)) true
  | 0, acc, _, _, ha => by
    simp only [vers, List.append_nil] at ha
    subst ha
    refine Ev.succ ?_
    simp only [incipitlaw7_EntryVersions.l0]
    refine Ev.ite_neg (by omega) ?_
    rw [find_k s n q hn, find_j s n q hn]
    simp only [Option.bind_some]
    by_cases c : 1 ≤ below s q n
    · rw [if_pos c]
      simp only [Option.bind_some]
      have := want_l1 s n q hs hs2 hn (⟨#[107]⟩ : ByteArray) 1 (⟨#[]⟩ : ByteArray) (⟨#[]⟩ : ByteArray) _ 1 rfl (by omega) (by omega)
      rw [decide_eq_true c] at this
      simpa [below] using this
    · rw [if_neg c]
      simp only [Option.bind_some]
      have := want_l1 s n q hs hs2 hn (⟨#[]⟩ : ByteArray) 0 (⟨#[]⟩ : ByteArray) (⟨#[]⟩ : ByteArray) _ 1 rfl (by omega) (by omega)
      rw [decide_eq_false c, show below s q n = 0 by omega] at this
      simpa [below] using this
  | i + 1, acc, hi, hl, ha => by
    have hm : (i + 1) * s ≤ 30 * 1000 := Nat.mul_le_mul (by omega) hs2
    have hw : wrap64 (((i + 1 : Nat) : Int) * (s : Int)) = (((i + 1) * s : Nat) : Int) := by
      rw [show ((i + 1 : Nat) : Int) * (s : Int) = (((i + 1) * s : Nat) : Int) by simp, wrap64_id (by omega) (by omega)]
    have ih := make_l0 s n q hs hs2 hn i (acc ++ [ent s (i + 1)]) (by omega) (by simp; omega) (by rw [List.append_assoc]; exact ha)
    refine Ev.succ ?_
    simp only [incipitlaw7_EntryVersions.l0, hw]
    refine Ev.ite_pos (by omega) (Ev.ite_pos (by omega) ?_)
    rw [wrap64_id (n := ((i + 1 : Nat) : Int) - 1) (by omega) (by omega), show ((i + 1 : Nat) : Int) - 1 = (i : Int) by omega]
    exact ih
theorem ver_true (a0 a1 a2 : Int) : Ev (fun k => incipitlaw7_EntryVersions.j0 k a0 a1 a2 true) true := by
  refine Ev.succ ?_
  simp only [incipitlaw7_EntryVersions.j0]
  exact Ev.ite_pos trivial (Ev.now _)
theorem EntryVersions : incipitlaw7_EntryVersions.Pure := by
  intro a0 a1 a2 _ _ _
  refine Ev.rounds (g := fun k => incipitlaw7_EntryVersions.f k a0 a1 a2) ?_
  unfold incipitlaw7_EntryVersions.f
  refine Ev.bind begun_ev (Ev.ite_pos rfl ?_)
  by_cases c : a0 < 0
  · exact Ev.ite_pos c (ver_true _ _ _)
  refine Ev.ite_neg c ?_
  by_cases c2 : a0 > 30
  · exact Ev.ite_pos c2 (ver_true _ _ _)
  refine Ev.ite_neg c2 ?_
  by_cases c3 : a1 < 1
  · exact Ev.ite_pos c3 (ver_true _ _ _)
  refine Ev.ite_neg c3 ?_
  by_cases c4 : a1 > 1000
  · rw [decide_eq_true c4]; exact ver_true _ _ _
  rw [decide_eq_false c4]
  obtain ⟨n, rfl⟩ := Int.eq_ofNat_of_zero_le (show 0 ≤ a0 by omega)
  obtain ⟨s, rfl⟩ := Int.eq_ofNat_of_zero_le (show 0 ≤ a1 by omega)
  refine Ev.succ ?_
  simp only [incipitlaw7_EntryVersions.j0]
  refine Ev.ite_neg (by simp) ?_
  exact make_l0 s n a2 (by omega) (by omega) (by omega) n [] (by omega) (by simp) (by simp)
end Go.Proofs.Ytcijcfdllfaghaa.Pure
