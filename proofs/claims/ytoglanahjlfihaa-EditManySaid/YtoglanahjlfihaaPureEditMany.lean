/- It is proved that the law EditMany of package incipitlaw19 returns true at every input: two hundred tables may come or go, one more not. No conditions. -/
import Derived.Test.YtoglanahjlfihaaMEdtx0
import Derived.Test.YtoglanahjlfihaaMEdtx3
import Derived.Test.YtoglanahjlfihaaMEdtx9
import Derived.Test.YtoglanahjlfihaaQEdtEditRT
namespace Go.Proofs.Ytoglanahjlfihaa.Pure
open Go.RowKit Go.Proofs.Ytoglanahjlfihaa.MEdt Go.Proofs.Ytoglanahjlfihaa.QEdt Go.Proofs.YtoglanahjlfihaaW.PrintWords Go.Proofs.YtoglanahjlfihaaW.PrintLast Go.Proofs.YtoglanahjlfihaaW.PrintMore
set_option linter.unusedVariables false
set_option linter.unusedSimpArgs false
theorem manyBegun_ev : Ev (fun k => incipitlaw19_begun.f k) true := Ev.of incipitlaw19_begun.mono (k := 30) (by decide +kernel)
def manyF (n : Nat) : List S55 := (List.range n).map (fun i : Nat => (⟨((i + 1 : Nat) : Int), 0, 0, (⟨#[]⟩ : ByteArray), (⟨#[]⟩ : ByteArray)⟩ : S55))
def manyD (n : Nat) : List Int := (List.range n).map (fun i : Nat => ((i + 1 : Nat) : Int))
theorem manyF_len (n : Nat) : (manyF n).length = n := by simp [manyF]
theorem manyD_len (n : Nat) : (manyD n).length = n := by simp [manyD]
theorem manyF_succ (n : Nat) : manyF (n + 1) = manyF n ++ [(⟨((n + 1 : Nat) : Int), 0, 0, (⟨#[]⟩ : ByteArray), (⟨#[]⟩ : ByteArray)⟩ : S55)] := by simp [manyF, List.range_succ]
theorem manyD_succ (n : Nat) : manyD (n + 1) = manyD n ++ [((n + 1 : Nat) : Int)] := by simp [manyD, List.range_succ]
theorem many_ok (n m : Nat) (hn : n ≤ 220) (hm : m ≤ 220) : okB 0 0 0 (manyF n) (manyD m) = (decide (n ≤ 200) && decide (m ≤ 200)) := by
  have e1 : Op.bytesLess (⟨#[]⟩ : ByteArray).toList (⟨#[]⟩ : ByteArray).toList = false := by decide +kernel
  have hf : (manyF n).all fileB = true := by
    rw [List.all_eq_true]
    intro f hf
    obtain ⟨i, hi, rfl⟩ := List.mem_map.1 hf
    have := List.mem_range.1 hi
    have e2 : ((⟨#[]⟩ : ByteArray).size : Int) ≤ 13000 := by decide
    simp only [fileB, inB, List.all_cons, List.all_nil, Bool.and_true, Bool.and_eq_true, decide_eq_true_eq, e1, Bool.not_false, true_and]
    exact ⟨⟨by omega, by omega⟩, ⟨by omega, by omega⟩, ⟨by omega, by omega⟩, e2, e2⟩
  have hd : inB 1 1125899906842624 (manyD m) = true := by
    unfold inB
    rw [List.all_eq_true]
    intro x hx
    obtain ⟨i, hi, rfl⟩ := List.mem_map.1 hx
    have := List.mem_range.1 hi
    simp only [Bool.and_eq_true, decide_eq_true_eq]
    exact ⟨by omega, by omega⟩
  have h0 : inB 0 1125899906842624 [0, 0, 0] = true := by decide
  unfold okB
  rw [h0, hf, hd, manyF_len, manyD_len, Bool.true_and, Bool.and_true, Bool.and_true]
  congr 1
  · rw [Bool.eq_iff_iff, decide_eq_true_eq, decide_eq_true_eq]; omega
  · rw [Bool.eq_iff_iff, decide_eq_true_eq, decide_eq_true_eq]; omega
theorem many_end (n m : Nat) (hn : n ≤ 220) (hm : m ≤ 220) : Ev (fun k => incipitlaw19_EditMany.l1 k (n : Int) (m : Int) (m : Int) 0 0 0 (manyF n) (manyD m)) true := by
  have hb := many_ok n m hn hm
  refine Ev.succ ?_
  simp only [incipitlaw19_EditMany.l1]
  refine Ev.ite_neg (by omega) ?_
  by_cases c1 : n ≤ 200
  · by_cases c2 : m ≤ 200
    · rw [decide_eq_true c1, decide_eq_true c2] at hb
      refine Ev.bind (Encode_ev 0 0 0 _ _ hb) (Ev.ite_neg (by omega) (Ev.ite_neg (by omega) (Ev.bind (Decode_ev 0 0 0 _ _ hb) ?_)))
      refine Ev.ite_pos rfl (Ev.ite_pos rfl (Ev.ite_pos (by rw [manyF_len]) ?_))
      refine Ev.same ?_
      simp [manyD_len]
    · rw [decide_eq_false c2, Bool.and_false] at hb
      refine Ev.bind (Encode_no 0 0 0 _ _ (by rw [manyF_len]; omega) (by rw [manyD_len]; omega) hb) (Ev.ite_neg (by omega) (Ev.ite_pos (by omega) (Ev.ite_pos rfl (Ev.now _))))
  · rw [decide_eq_false c1, Bool.false_and] at hb
    refine Ev.bind (Encode_no 0 0 0 _ _ (by rw [manyF_len]; omega) (by rw [manyD_len]; omega) hb) (Ev.ite_pos (by omega) (Ev.ite_pos rfl (Ev.now _)))
theorem many_l1 (n m : Nat) (hn : n ≤ 220) (hm : m ≤ 220) (d : Nat) : ∀ i : Nat, m - i = d → i ≤ m → Ev (fun k => incipitlaw19_EditMany.l1 k (n : Int) (m : Int) (i : Int) 0 0 0 (manyF n) (manyD i)) true := by
  induction d with
  | zero =>
    intro i hd hi
    have : i = m := by omega
    subst this
    exact many_end n i hn hm
  | succ d ih =>
    intro i hd hi
    have en : wrap64 ((i : Int) + 1) = ((i + 1 : Nat) : Int) := by rw [wrap64_id (by omega) (by omega)]; omega
    have := ih (i + 1) (by omega) (by omega)
    rw [manyD_succ] at this
    refine Ev.succ ?_
    simp only [incipitlaw19_EditMany.l1, en]
    exact Ev.ite_pos (by omega) (Ev.ite_pos (by rw [manyD_len]; omega) this)
theorem many_l0 (n m : Nat) (hn : n ≤ 220) (hm : m ≤ 220) (d : Nat) : ∀ i : Nat, n - i = d → i ≤ n → Ev (fun k => incipitlaw19_EditMany.l0 k (n : Int) (m : Int) (i : Int) 0 0 0 (manyF i)) true := by
  induction d with
  | zero =>
    intro i hd hi
    have : i = n := by omega
    subst this
    refine Ev.succ ?_
    simp only [incipitlaw19_EditMany.l0]
    exact Ev.ite_neg (by omega) (many_l1 i m hn hm m 0 rfl (Nat.zero_le _))
  | succ d ih =>
    intro i hd hi
    have en : wrap64 ((i : Int) + 1) = ((i + 1 : Nat) : Int) := by rw [wrap64_id (by omega) (by omega)]; omega
    have := ih (i + 1) (by omega) (by omega)
    rw [manyF_succ] at this
    refine Ev.succ ?_
    simp only [incipitlaw19_EditMany.l0, en]
    exact Ev.ite_pos (by omega) (Ev.ite_pos (by rw [manyF_len]; omega) this)
theorem EditMany : incipitlaw19_EditMany.Pure := by
  intro a b _ _
  refine Ev.rounds (g := fun k => incipitlaw19_EditMany.f k a b) ?_
  unfold incipitlaw19_EditMany.f
  refine Ev.bind manyBegun_ev (Ev.ite_pos rfl ?_)
  have yes : Ev (fun k => incipitlaw19_EditMany.j0 k a b true) true := by
    refine Ev.succ ?_
    simp only [incipitlaw19_EditMany.j0]
    exact Ev.ite_pos trivial (Ev.now _)
  by_cases c0 : a < 0
  · exact Ev.ite_pos c0 yes
  refine Ev.ite_neg c0 ?_
  by_cases c1 : a > 220
  · exact Ev.ite_pos c1 yes
  refine Ev.ite_neg c1 ?_
  by_cases c2 : b < 0
  · exact Ev.ite_pos c2 yes
  refine Ev.ite_neg c2 ?_
  by_cases c3 : b > 220
  · rw [decide_eq_true c3]; exact yes
  rw [decide_eq_false c3]
  obtain ⟨n, rfl⟩ : ∃ n : Nat, a = (n : Int) := ⟨a.toNat, by omega⟩
  obtain ⟨m, rfl⟩ : ∃ m : Nat, b = (m : Int) := ⟨b.toNat, by omega⟩
  refine Ev.succ ?_
  simp only [incipitlaw19_EditMany.j0]
  exact Ev.ite_neg (by simp) (many_l0 n m (by omega) (by omega) n 0 rfl (Nat.zero_le _))
end Go.Proofs.Ytoglanahjlfihaa.Pure
