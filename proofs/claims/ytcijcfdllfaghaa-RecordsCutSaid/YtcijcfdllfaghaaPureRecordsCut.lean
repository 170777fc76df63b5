/- It is proved that the law RecordsCut of package incipitlaw11 returns true at every input: a log that is cut anywhere is cut off: the records that are whole are told, and nothing else. No conditions. -/
import Derived.Test.YtcijcfdllfaghaaMRecx3
import Derived.Test.YtcijcfdllfaghaaMRecx6
import Derived.Test.YtcijcfdllfaghaaQRecRecLaid
namespace Go.Proofs.Ytcijcfdllfaghaa.Pure
open Go.RowKit Go.Proofs.Ytcijcfdllfaghaa.MRec Go.Proofs.Ytcijcfdllfaghaa.QRec Go.Proofs.YtcijcfdllfaghaaW.PrintWords Go.Proofs.YtcijcfdllfaghaaW.PrintLast Go.Proofs.YtcijcfdllfaghaaW.PrintMore
set_option linter.unusedVariables false
set_option linter.unusedSimpArgs false
/-- Where a cut lies: behind so many whole records, within the next one. -/
theorem cut_at : ∀ (R : List (List Int)) (a c : Nat), c ≤ (lay a R).length → ∃ D rest c', R = D ++ rest ∧ c = (lay a D).length + c' ∧
    ((rest = [] ∧ c' = 0) ∨ ∃ b t, rest = b :: t ∧ c' < (app (a + (lay a D).length) b true).length ∧ (lay a R).take c = lay a D ++ (app (a + (lay a D).length) b true).take c')
  | [], a, c, h => ⟨[], [], 0, rfl, by simp [lay] at h ⊢; omega, .inl ⟨rfl, rfl⟩⟩
  | b :: t, a, c, h => by
    by_cases hc : c < (app a b true).length
    · refine ⟨[], b :: t, c, rfl, by simp [lay], .inr ⟨b, t, rfl, by simpa [lay] using hc, ?_⟩⟩
      simp only [lay, List.length_nil, Nat.add_zero, List.nil_append]
      exact List.take_append_of_le_length (by omega)
    · simp only [lay, List.length_append] at h
      obtain ⟨D, rest, c', h1, h2, h3⟩ := cut_at t (a + (app a b true).length) (c - (app a b true).length) (by omega)
      have el : (lay a (b :: D)).length = (app a b true).length + (lay (a + (app a b true).length) D).length := by simp [lay]
      have e9 : c = (lay a (b :: D)).length + c' := by clear h3; rw [el]; omega
      refine ⟨b :: D, rest, c', by rw [h1]; rfl, e9, ?_⟩
      rcases h3 with h3 | ⟨b2, t2, e, hlt, htk⟩
      · exact .inl h3
      · refine .inr ⟨b2, t2, e, by rw [el, ← Nat.add_assoc]; exact hlt, ?_⟩
        rw [el, ← Nat.add_assoc]
        simp only [lay, List.append_assoc]
        rw [List.take_append, List.take_of_length_le (by omega), htk]

theorem count_l0 (D rest : List (List Int)) (c c' : Nat) (hR : Recs (D ++ rest)) (hl : (D ++ rest).length ≤ 20) (hc : c = (lay 0 D).length + c')
    (h : (rest = [] ∧ c' = 0) ∨ ∃ b t, rest = b :: t ∧ c' < (app (lay 0 D).length b true).length) (d : Nat) : ∀ i : Nat, D.length - i = d → i ≤ D.length →
    Ev (fun k => incipitlaw11_RecordsCut.l0 k (c : Int) (D ++ rest) D ((lay 0 (D.take i)).length : Int) (i : Int)) true := by
  have hR1 : Recs D := fun b hb => hR b (List.mem_append_left _ hb)
  have hD := lay_le D 0 hR1
  rw [List.length_append] at hl
  induction d with
  | zero =>
    intro i hd hi
    obtain rfl : i = D.length := by omega
    rw [List.take_length]
    refine Ev.succ ?_
    simp only [incipitlaw11_RecordsCut.l0]
    rcases h with ⟨rfl, rfl⟩ | ⟨b, t, rfl, hlt⟩
    · refine Ev.ite_neg (by simp) ?_
      rw [beq_self_eq_true]; exact Ev.now _
    · refine Ev.ite_pos (by simp; omega) (Ev.ite_pos (by omega) ?_)
      have hg : (D ++ b :: t).getD D.length [] = b := by
        rw [List.getD_eq_getElem?_getD, List.getElem?_append_right (by omega), Nat.sub_self]; rfl
      have hb := hR b (List.mem_append_right _ (List.mem_cons_self ..))
      have ha := app_le (lay 0 D).length b true
      rw [rd_L1_nat, hg]
      refine Ev.bind (rAppend_ev hb.1 (by omega)) (Ev.ite_pos (by rw [wrap64_id (by omega) (by omega)]; omega) ?_)
      rw [beq_self_eq_true]; exact Ev.now _
  | succ d ih =>
    intro i hd hi
    refine Ev.succ ?_
    simp only [incipitlaw11_RecordsCut.l0]
    refine Ev.ite_pos (by rw [List.length_append]; omega) (Ev.ite_pos (by omega) ?_)
    have hg : (D ++ rest).getD i [] = D.getD i [] := by
      rw [List.getD_eq_getElem?_getD, List.getD_eq_getElem?_getD, List.getElem?_append_left (by omega)]
    have hb := hR1.getD i
    rw [rd_L1_nat, hg]
    have hi1 := lay_le (D.take i) 0 (hR1.take i)
    rw [List.length_take] at hi1
    have hs : lay 0 (D.take (i + 1)) = lay 0 (D.take i) ++ app (lay 0 (D.take i)).length (D.getD i []) true := by rw [take_snoc D i (by omega), lay_snoc]
    have hle : (lay 0 (D.take (i + 1))).length ≤ (lay 0 D).length := by
      have := lay_append (D.take (i + 1)) (D.drop (i + 1)) 0
      rw [List.take_append_drop] at this
      rw [this, List.length_append]; omega
    have hsl : (lay 0 (D.take (i + 1))).length = (lay 0 (D.take i)).length + (app (lay 0 (D.take i)).length (D.getD i []) true).length := by rw [hs, List.length_append]
    refine Ev.bind (rAppend_ev hb.1 (by omega)) ?_
    rw [wrap64_id (n := ((lay 0 (D.take i)).length : Int) + _) (by omega) (by omega), wrap64_id (by omega) (by omega), show ((lay 0 (D.take i)).length : Int) + ((app (lay 0 (D.take i)).length (D.getD i []) true).length : Int) = ((lay 0 (D.take (i + 1))).length : Int) by omega]
    refine Ev.ite_neg (by omega) ?_
    exact ih (i + 1) (by omega) (by omega)

theorem RecordsCut : incipitlaw11_RecordsCut.Pure := by
  intro l0 l1 a2 hl0 hl0' _ _ _ hb1 _
  refine Ev.rounds (g := fun k => incipitlaw11_RecordsCut.f k l0 l1 a2) ?_
  unfold incipitlaw11_RecordsCut.f
  refine Ev.bind begun_ev (Ev.ite_pos rfl ?_)
  obtain ⟨R, h1, h2, h3⟩ := Laid_ev (n := 8) (by omega) (show l0.length ≤ 4611686018427387904 by omega) ((bytes_of_wf hb1).take 300) (by rw [List.length_take]; omega)
  refine Ev.bind h3 ?_
  have htrue : Ev (fun k => incipitlaw11_RecordsCut.j0 k a2 (lay 0 R) R true) true := by
    refine Ev.succ ?_
    simp only [incipitlaw11_RecordsCut.j0]
    exact Ev.ite_pos trivial (Ev.now _)
  by_cases c1 : a2 < 0
  · exact Ev.ite_pos c1 htrue
  refine Ev.ite_neg c1 ?_
  by_cases c2 : a2 > ((lay 0 R).length : Int)
  · show Ev (fun k => incipitlaw11_RecordsCut.j0 k a2 (lay 0 R) R (decide (a2 > ((lay 0 R).length : Int)))) true
    rw [decide_eq_true c2]; exact htrue
  show Ev (fun k => incipitlaw11_RecordsCut.j0 k a2 (lay 0 R) R (decide (a2 > ((lay 0 R).length : Int)))) true
  rw [decide_eq_false c2]
  obtain ⟨c, rfl⟩ := Int.eq_ofNat_of_zero_le (show 0 ≤ a2 by omega)
  obtain ⟨D, rest, c', e1, e2, e3⟩ := cut_at R 0 c (by omega)
  subst e1
  have hR1 : Recs D := fun b hb => h1 b (List.mem_append_left _ hb)
  have hlog := lay_le (D ++ rest) 0 h1
  have hDl : D.length + rest.length ≤ 8 := by rw [List.length_append] at h2; exact h2
  have hread : Ev (fun k => reclog_Read.f k ((lay 0 (D ++ rest)).take c)) (D, ((lay 0 D).length : Int), true) := by
    rcases e3 with ⟨rfl, rfl⟩ | ⟨b, t, rfl, hlt, htk⟩
    · rw [List.append_nil, e2, Nat.add_zero, List.take_length]
      rw [List.append_nil] at hlog
      exact Read_whole hR1.read (lay_bytes D 0 hR1) (by omega) (by omega)
    · rw [Nat.zero_add] at hlt htk
      have hb := h1 b (List.mem_append_right _ (List.mem_cons_self ..))
      exact Read_part (c := c') hR1.read hb.1 (by omega) ((lay_bytes _ 0 h1).take c) (by rw [List.length_take]; omega) (by omega) htk hlt
  refine Ev.succ ?_
  simp only [incipitlaw11_RecordsCut.j0]
  refine Ev.ite_neg (by simp) (Ev.ite_pos (by omega) (Ev.ite_pos (by omega) ?_))
  rw [Int.toNat_natCast]
  refine Ev.bind hread (Ev.ite_pos rfl (Ev.ite_neg (by simp only; omega) (Ev.ite_neg (by simp only [List.length_append]; omega) (Ev.ite_pos (by simp only; omega) (Ev.ite_pos (by simp only [List.length_append]; omega) ?_)))))
  simp only [Int.toNat_natCast]
  rw [List.take_left]
  refine Ev.bind (same_ev (by omega)) (Ev.succ ?_)
  simp only [incipitlaw11_RecordsCut.j1]
  refine Ev.ite_neg (by simp) ?_
  have := count_l0 D rest c c' h1 (by rw [List.length_append]; omega) e2 (by
    rcases e3 with h | ⟨b, t, h1, h2, _⟩
    · exact .inl h
    · exact .inr ⟨b, t, h1, by rwa [Nat.zero_add] at h2⟩) _ 0 rfl (by omega)
  exact this
end Go.Proofs.Ytcijcfdllfaghaa.Pure
