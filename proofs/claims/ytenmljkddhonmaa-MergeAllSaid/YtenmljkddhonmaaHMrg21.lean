import Derived.Test.YtenmljkddhonmaaHMrg16
import Derived.Test.YtenmljkddhonmaaQMrgBasic
namespace Go.Proofs.Ytenmljkddhonmaa.MMrg
open Go.RowKit Go.Proofs.Ytenmljkddhonmaa.QMrg Go.Proofs.YtenmljkddhonmaaW.PrintWords Go.Proofs.YtenmljkddhonmaaW.PrintLast Go.Proofs.YtenmljkddhonmaaW.PrintMore
set_option linter.unusedVariables false
set_option linter.unusedSimpArgs false
/-! entries come into sorted ones -/
theorem less_ref (a b : S28) : incipitref12_Less.f a.f0 a.f1 a.f2 a.f3 a.f4 b.f0 b.f1 b.f2 b.f3 b.f4 = some (ltE a b) := by
  unfold incipitref12_Less.f ltE
  by_cases h0 : a.f0.toList = b.f0.toList
  · rw [if_pos h0, if_pos h0]
    by_cases h1 : a.f1 = b.f1
    · rw [if_pos h1, if_pos h1]
    · rw [if_neg h1, if_neg h1]
  · rw [if_neg h0, if_neg h0]
theorem eq_ref (a : S28) : incipitref12_Eq.f a.f0 a.f1 a.f2 a.f3 a.f4 a.f0 a.f1 a.f2 a.f3 a.f4 = some true := by
  unfold incipitref12_Eq.f
  simp
def insE (e : S28) : List S28 → List S28
  | [] => [e]
  | x :: t => if ltE e x = true then e :: x :: t else x :: insE e t
theorem insE_len (e : S28) : ∀ l, (insE e l).length = l.length + 1
  | [] => rfl
  | x :: t => by unfold insE; split <;> simp [insE_len e t]
theorem rd_nat28 (l : List S28) (i : Nat) (h : i < l.length) : rd_T28 l (i : Int) = l[i] := by
  unfold rd_T28
  rw [Int.toNat_natCast, List.getD_eq_getElem?_getD, List.getElem?_eq_getElem h]; rfl
theorem Into_l0 (l : List S28) (e : S28) (hl : l.length < 1000000) (d : Nat) : ∀ i : Nat, l.length - i = d → i ≤ l.length → Ev (fun k => incipitref12_Into.l0 k l (i : Int) e.f0 e.f1 e.f2 e.f3 e.f4) (l.take i ++ insE e (l.drop i)) := by
  induction d with
  | zero =>
    intro i hd hi
    have hi2 : i = l.length := by omega
    refine Ev.succ ?_
    simp only [incipitref12_Into.l0, Option.bind_some, Int.toNat_natCast]
    refine Ev.ite_neg (by omega) (Ev.ite_pos (by omega) (Ev.ite_pos (by omega) ?_))
    refine Ev.ite_pos (by simp only [List.length_cons, List.length_nil, List.length_drop]; omega) (Ev.ite_pos (by simp only [List.length_append, List.length_cons, List.length_nil, List.length_drop, List.length_take]; omega) (Ev.same ?_))
    rw [List.drop_eq_nil_of_le (by omega)]; rfl
  | succ d ih =>
    intro i hd hi
    have hlt : i < l.length := by omega
    refine Ev.succ ?_
    simp only [incipitref12_Into.l0, Option.bind_some, Int.toNat_natCast, less_ref, rd_nat28 l i hlt]
    refine Ev.ite_pos (by omega) (Ev.ite_pos (by omega) ?_)
    rw [List.drop_eq_getElem_cons hlt]
    unfold insE
    by_cases c : ltE e l[i] = true
    · rw [if_pos c]
      refine Ev.ite_pos c (Ev.ite_pos (by omega) ?_)
      refine Ev.ite_pos (by simp only [List.length_cons, List.length_nil, List.length_drop]; omega) (Ev.ite_pos (by simp only [List.length_append, List.length_cons, List.length_nil, List.length_drop, List.length_take]; omega) (Ev.same rfl))
    · rw [if_neg c]
      refine Ev.ite_neg c ?_
      rw [wrap64_id (n := (i : Int) + 1) (by omega) (by omega)]
      have := ih (i + 1) (by omega) (by omega)
      rw [List.take_succ_eq_append_getElem hlt, List.append_assoc] at this
      exact this
theorem Into_ev (l : List S28) (e : S28) (hl : l.length < 1000000) : Ev (fun k => incipitref12_Into.f k l e.f0 e.f1 e.f2 e.f3 e.f4) (insE e l) := Into_l0 l e hl l.length 0 rfl (Nat.zero_le _)
theorem Cut1_ok (s : ByteArray) (n : Nat) : ∃ t, incipitlaw1_Cut.f s (n : Int) = some t := by
  unfold incipitlaw1_Cut.f
  by_cases c : (s.size : Int) > n
  · rw [if_pos c, if_pos (by omega), if_pos (by omega)]; exact ⟨_, rfl⟩
  · rw [if_neg c]; exact ⟨_, rfl⟩
theorem Cut_ok (a0 : ByteArray) (a1 a2 : Int) (a3 a4 : ByteArray) : ∃ c0 c3 c4, incipitlaw7_Cut.f a0 a1 a2 a3 a4 = some (c0, a1, a2, c3, c4) := by
  obtain ⟨c0, h0⟩ := Cut1_ok a0 30
  obtain ⟨c3, h3⟩ := Cut1_ok a3 30
  obtain ⟨c4, h4⟩ := Cut1_ok a4 60
  have e30 : ((30 : Nat) : Int) = 30 := rfl
  have e60 : ((60 : Nat) : Int) = 60 := rfl
  rw [e30] at h0 h3
  rw [e60] at h4
  refine ⟨c0, c3, c4, ?_⟩
  unfold incipitlaw7_Cut.f
  rw [h0, h3, h4]; rfl
theorem CutAll_l0 (l : List S28) (n : Nat) (hn : n ≤ 1000) (d : Nat) : ∀ (i : Nat) (out : List S28), min l.length n - i = d → i ≤ n → out.length ≤ i → ∃ t, Ev (fun k => incipitlaw7_CutAll.l0 k l (n : Int) out (i : Int)) t ∧ t.length ≤ n := by
  induction d with
  | zero =>
    intro i out hd hi ho
    refine ⟨out, Ev.succ ?_, by omega⟩
    simp only [incipitlaw7_CutAll.l0]
    by_cases c : i < l.length
    · exact Ev.ite_pos (by omega) (Ev.ite_neg (by omega) (Ev.now _))
    · exact Ev.ite_neg (by omega) (Ev.now _)
  | succ d ih =>
    intro i out hd hi ho
    have hlt : i < l.length := by omega
    obtain ⟨c0, c3, c4, hc⟩ := Cut_ok l[i].f0 l[i].f1 l[i].f2 l[i].f3 l[i].f4
    obtain ⟨t, h1, h2⟩ := ih (i + 1) (out ++ [(⟨c0, l[i].f1, l[i].f2, c3, c4⟩ : S28)]) (by omega) (by omega) (by rw [List.length_append, List.length_singleton]; omega)
    refine ⟨t, Ev.succ ?_, h2⟩
    simp only [incipitlaw7_CutAll.l0, rd_nat28 l i hlt, hc, Option.bind_some]
    rw [wrap64_id (n := (i : Int) + 1) (by omega) (by omega)]
    exact Ev.ite_pos (by omega) (Ev.ite_pos (by omega) (Ev.ite_pos (by omega) (Ev.ite_pos (by omega) h1)))
theorem CutAll_ev (l : List S28) (n : Nat) (hn : n ≤ 1000) : ∃ t, Ev (fun k => incipitlaw7_CutAll.f k l (n : Int)) t ∧ t.length ≤ n :=
  CutAll_l0 l n hn (min l.length n) 0 [] rfl (Nat.zero_le _) (Nat.le_refl _)
theorem EqAll_l0 (l : List S28) (hl : l.length < 1000000) (d : Nat) : ∀ i : Nat, l.length - i = d → Ev (fun k => incipitref12_EqAll.l0 k l l (i : Int)) true := by
  induction d with
  | zero =>
    intro i hd
    refine Ev.succ ?_
    simp only [incipitref12_EqAll.l0]
    exact Ev.ite_neg (by omega) (Ev.now _)
  | succ d ih =>
    intro i hd
    have hlt : i < l.length := by omega
    refine Ev.succ ?_
    simp only [incipitref12_EqAll.l0, rd_nat28 l i hlt, eq_ref, Option.bind_some]
    rw [wrap64_id (n := (i : Int) + 1) (by omega) (by omega)]
    exact Ev.ite_pos (by omega) (Ev.ite_pos (by omega) (Ev.ite_pos (by omega) (ih (i + 1) (by omega))))
theorem EqAll_ev (l : List S28) (hl : l.length < 1000000) : Ev (fun k => incipitref12_EqAll.f k l l) true := by
  simp only [incipitref12_EqAll.f]
  exact Ev.ite_pos trivial (EqAll_l0 l hl l.length 0 rfl)
end Go.Proofs.Ytenmljkddhonmaa.MMrg
