/- Which entries are sorted: ikey.Sorted and incipitref12.Sorted tell the same. -/
import Derived.Test.YtcijcfdllfaghaaMEntx0
import Derived.Test.YtcijcfdllfaghaaMEntx3
import Derived.Test.YtcijcfdllfaghaaMEntx4
import Derived.Test.YtcijcfdllfaghaaMEntx7
import Derived.Test.YtcijcfdllfaghaaQEntEntSort
namespace Go.Proofs.Ytcijcfdllfaghaa.QEnt
open Go.RowKit Go.Proofs.Ytcijcfdllfaghaa.MEnt Go.Proofs.Ytcijcfdllfaghaa.QEnt Go.Proofs.YtcijcfdllfaghaaW.PrintWords Go.Proofs.YtcijcfdllfaghaaW.PrintLast Go.Proofs.YtcijcfdllfaghaaW.PrintMore
set_option linter.unusedVariables false
set_option linter.unusedSimpArgs false
def srt : List S23 → Bool
  | [] => true
  | [_] => true
  | x :: y :: t => ltS x y && srt (y :: t)
theorem srt_of : ∀ l : List S23, l.Pairwise srtR → srt l = true
  | [], _ => rfl
  | [_], _ => rfl
  | x :: y :: t, h => by
    obtain ⟨h1, h2⟩ := List.pairwise_cons.1 h
    unfold srt
    rw [(h1 y (List.mem_cons_self ..)).1, srt_of (y :: t) h2]; rfl
theorem srt_drop (l : List S23) (i : Nat) (h : i + 1 < l.length) : srt (l.drop i) = (ltS l[i] l[i + 1] && srt (l.drop (i + 1))) := by
  rw [List.drop_eq_getElem_cons (show i < l.length by omega), List.drop_eq_getElem_cons h]
  rfl
theorem srt_last (l : List S23) (i : Nat) (h : l.length ≤ i + 1) : srt (l.drop i) = true := by
  by_cases c : i < l.length
  · rw [List.drop_eq_getElem_cons c, List.drop_eq_nil_of_le (by omega)]; rfl
  · rw [List.drop_eq_nil_of_le (by omega)]; rfl
theorem Sorted_l0 (l : List S23) (hl : l.length < 1000000) (d : Nat) : ∀ i : Nat, l.length - (i + 1) = d → Ev (fun k => ikey_Sorted.l0 k l ((i + 1 : Nat) : Int)) (srt (l.drop i)) ∧ Ev (fun k => incipitref12_Sorted.l0 k l ((i + 1 : Nat) : Int)) (srt (l.drop i)) := by
  induction d with
  | zero =>
    intro i hd
    rw [srt_last l i (by omega)]
    refine ⟨Ev.succ ?_, Ev.succ ?_⟩
    · simp only [ikey_Sorted.l0]
      exact Ev.ite_neg (by omega) (Ev.now _)
    · simp only [incipitref12_Sorted.l0]
      exact Ev.ite_neg (by omega) (Ev.now _)
  | succ d ih =>
    intro i hd
    have h1 : i + 1 < l.length := by omega
    have ei : wrap64 (((i + 1 : Nat) : Int) - 1) = ((i : Nat) : Int) := by rw [wrap64_id (by omega) (by omega)]; omega
    have en : wrap64 (((i + 1 : Nat) : Int) + 1) = ((i + 1 + 1 : Nat) : Int) := by rw [wrap64_id (by omega) (by omega)]; omega
    obtain ⟨j1, j2⟩ := ih (i + 1) (by omega)
    rw [srt_drop l i h1]
    refine ⟨Ev.succ ?_, Ev.succ ?_⟩
    · simp only [ikey_Sorted.l0, ei, en, Less_lt3, rd_T23_nat l i (by omega), rd_T23_nat l (i + 1) h1, Option.bind_some]
      refine Ev.ite_pos (by omega) (Ev.ite_pos (by omega) (Ev.ite_pos (by omega) (Ev.ite_pos (by omega) ?_)))
      by_cases c : ltS l[i] l[i + 1] = true
      · refine Ev.ite_pos c ?_
        rw [c]; exact j1
      · refine Ev.ite_neg c ?_
        rw [Bool.not_eq_true] at c
        rw [c]; exact Ev.now _
    · simp only [incipitref12_Sorted.l0, ei, en, rLess_lt3, rd_T23_nat l i (by omega), rd_T23_nat l (i + 1) h1, Option.bind_some]
      refine Ev.ite_pos (by omega) (Ev.ite_pos (by omega) (Ev.ite_pos (by omega) (Ev.ite_pos (by omega) ?_)))
      by_cases c : ltS l[i] l[i + 1] = true
      · refine Ev.ite_pos c ?_
        rw [c]; exact j2
      · refine Ev.ite_neg c ?_
        rw [Bool.not_eq_true] at c
        rw [c]; exact Ev.now _
theorem Sorted_ev (l : List S23) (hl : l.length < 1000000) : Ev (fun k => ikey_Sorted.f k l) (srt l) := (Sorted_l0 l hl (l.length - 1) 0 rfl).1
theorem rSorted_ev (l : List S23) (hl : l.length < 1000000) : Ev (fun k => incipitref12_Sorted.f k l) (srt l) := (Sorted_l0 l hl (l.length - 1) 0 rfl).2
theorem CutAll_l0 (l : List S23) (n : Nat) (hn : n ≤ 1000) (d : Nat) : ∀ (i : Nat) (out : List S23), min l.length n - i = d → i ≤ n → out.length ≤ i → ∃ t, Ev (fun k => incipitlaw7_CutAll.l0 k l (n : Int) out (i : Int)) t ∧ t.length ≤ n := by
  induction d with
  | zero =>
    intro i out hd hi ho
    refine ⟨out, Ev.succ ?_, by omega⟩
    simp only [incipitlaw7_CutAll.l0]
    by_cases c : i < l.length
    · exact Ev.ite_pos (by omega) (Ev.ite_neg (by omega) (Ev.now _))
    · exact Ev.ite_neg (by omega) (Ev.now _)
  | succ d ih =>
    intro i out hd hi ho
    have hlt : i < l.length := by omega
    obtain ⟨c0, c3, c4, hc, _⟩ := Cut_size l[i].f0 l[i].f1 l[i].f2 l[i].f3 l[i].f4
    obtain ⟨t, h1, h2⟩ := ih (i + 1) (out ++ [(⟨c0, l[i].f1, l[i].f2, c3, c4⟩ : S23)]) (by omega) (by omega) (by rw [List.length_append, List.length_singleton]; omega)
    refine ⟨t, Ev.succ ?_, h2⟩
    simp only [incipitlaw7_CutAll.l0, rd_T23_nat l i hlt, hc, Option.bind_some]
    rw [wrap64_id (n := (i : Int) + 1) (by omega) (by omega)]
    exact Ev.ite_pos (by omega) (Ev.ite_pos (by omega) (Ev.ite_pos (by omega) (Ev.ite_pos (by omega) h1)))
theorem CutAll_ev (l : List S23) (n : Nat) (hn : n ≤ 1000) : ∃ t, Ev (fun k => incipitlaw7_CutAll.f k l (n : Int)) t ∧ t.length ≤ n :=
  CutAll_l0 l n hn (min l.length n) 0 [] rfl (Nat.zero_le _) (Nat.le_refl _)
end Go.Proofs.Ytcijcfdllfaghaa.QEnt
