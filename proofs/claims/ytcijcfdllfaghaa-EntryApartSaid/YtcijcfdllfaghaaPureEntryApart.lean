/- It is proved that the law EntryApart of package incipitlaw7 returns true at every input: of any three entries the order goes on, and of two just one is Less, but that they are alike in form, number and kind. No conditions. -/
import Derived.Test.YtcijcfdllfaghaaMEntx0
import Derived.Test.YtcijcfdllfaghaaMEntx8
import Derived.Test.YtcijcfdllfaghaaQEntEntOrd
import Derived.Test.YtcijcfdllfaghaaQEntLt3
namespace Go.Proofs.Ytcijcfdllfaghaa.Pure
open Go.RowKit Go.Proofs.Ytcijcfdllfaghaa.MEnt Go.Proofs.Ytcijcfdllfaghaa.QEnt Go.Proofs.YtcijcfdllfaghaaW.PrintWords Go.Proofs.YtcijcfdllfaghaaW.PrintLast Go.Proofs.YtcijcfdllfaghaaW.PrintMore
set_option linter.unusedVariables false
set_option linter.unusedSimpArgs false
theorem apart_j1 (a0 : ByteArray) (a1 a2 : Int) (a3 a4 : ByteArray) (b0 : ByteArray) (b1 b2 : Int) (b3 b4 : ByteArray) (s : Bool) (hs : s = true ↔ (a0.toList = b0.toList ∧ a1 = b1 ∧ a2 = b2)) :
    Ev (fun k => incipitlaw7_EntryApart.j1 k s a0 a1 a2 a3 a4 b0 b1 b2 b3 b4) true := by
  refine Ev.succ ?_
  simp only [incipitlaw7_EntryApart.j1, Less_lt3, Option.bind_some]
  cases s with
  | true =>
    have h1 := lt3_same (hs.1 rfl)
    have h2 : lt3 b0 b1 b2 a0 a1 a2 = false := lt3_same ⟨(hs.1 rfl).1.symm, (hs.1 rfl).2.1.symm, (hs.1 rfl).2.2.symm⟩
    rw [h1]
    refine Ev.ite_neg (by simp) (Ev.succ ?_)
    simp only [incipitlaw7_EntryApart.j2, Less_lt3, Option.bind_some, h1, h2]
    exact Ev.ite_neg (by simp) (Ev.ite_neg (by simp) (Ev.now _))
  | false =>
    have h2 := lt3_swap a0 a1 a2 b0 b1 b2 (fun z => by have := hs.2 z; cases this)
    cases h1 : lt3 a0 a1 a2 b0 b1 b2 with
    | true =>
      rw [h1] at h2
      rw [h2]
      refine Ev.ite_pos (by simp) (Ev.succ ?_)
      simp only [incipitlaw7_EntryApart.j2, Less_lt3, Option.bind_some, h1]
      exact Ev.ite_neg (by simp) (Ev.ite_pos (by simp) (Ev.now _))
    | false =>
      rw [h1] at h2
      refine Ev.ite_neg (by simp) (Ev.succ ?_)
      simp only [incipitlaw7_EntryApart.j2, Less_lt3, Option.bind_some, h1, h2]
      exact Ev.ite_neg (by simp) (Ev.ite_neg (by simp) (Ev.now _))
theorem apart_j0 (a0 : ByteArray) (a1 a2 : Int) (a3 a4 : ByteArray) (b0 : ByteArray) (b1 b2 : Int) (b3 b4 : ByteArray) :
    Ev (fun k => incipitlaw7_EntryApart.j0 k false a0 a1 a2 a3 a4 b0 b1 b2 b3 b4) true := by
  refine Ev.succ ?_
  simp only [incipitlaw7_EntryApart.j0]
  refine Ev.ite_neg (by simp) ?_
  by_cases e : a0.toList = b0.toList
  · refine Ev.ite_pos e ?_
    by_cases f : a1 = b1
    · exact Ev.ite_pos f (apart_j1 _ _ _ _ _ _ _ _ _ _ _ ⟨fun z => ⟨e, f, by simpa using z⟩, fun z => by simpa using z.2.2⟩)
    · exact Ev.ite_neg f (apart_j1 _ _ _ _ _ _ _ _ _ _ _ ⟨fun z => (by cases z), fun z => absurd z.2.1 f⟩)
  · exact Ev.ite_neg e (apart_j1 _ _ _ _ _ _ _ _ _ _ _ ⟨fun z => (by cases z), fun z => absurd z.1 e⟩)
theorem EntryApart : ∀ x0 x1 x2 : S23, (x0.f0.size ≤ maxLen ∧ (Lit.int .i64 x0.f1).wf = true ∧ (Lit.int .i64 x0.f2).wf = true ∧ x0.f3.size ≤ maxLen ∧ x0.f4.size ≤ maxLen) → (x1.f0.size ≤ maxLen ∧ (Lit.int .i64 x1.f1).wf = true ∧ (Lit.int .i64 x1.f2).wf = true ∧ x1.f3.size ≤ maxLen ∧ x1.f4.size ≤ maxLen) → (x2.f0.size ≤ maxLen ∧ (Lit.int .i64 x2.f1).wf = true ∧ (Lit.int .i64 x2.f2).wf = true ∧ x2.f3.size ≤ maxLen ∧ x2.f4.size ≤ maxLen) → ∃ k, incipitlaw7_EntryApart.f k x0.f0 x0.f1 x0.f2 x0.f3 x0.f4 x1.f0 x1.f1 x1.f2 x1.f3 x1.f4 x2.f0 x2.f1 x2.f2 x2.f3 x2.f4 = some true := by
  intro x y z _ _ _
  refine Ev.rounds (g := fun k => incipitlaw7_EntryApart.f k x.f0 x.f1 x.f2 x.f3 x.f4 y.f0 y.f1 y.f2 y.f3 y.f4 z.f0 z.f1 z.f2 z.f3 z.f4) ?_
  unfold incipitlaw7_EntryApart.f
  refine Ev.bind begun_ev (Ev.ite_pos rfl ?_)
  obtain ⟨a0, a3, a4, hx⟩ := Cut_ok x.f0 x.f1 x.f2 x.f3 x.f4
  obtain ⟨b0, b3, b4, hy⟩ := Cut_ok y.f0 y.f1 y.f2 y.f3 y.f4
  obtain ⟨c0, c3, c4, hz⟩ := Cut_ok z.f0 z.f1 z.f2 z.f3 z.f4
  simp only [hx, hy, hz, Option.bind_some, Less_lt3]
  have hj := apart_j0 a0 x.f1 x.f2 a3 a4 b0 y.f1 y.f2 b3 b4
  by_cases h1 : lt3 a0 x.f1 x.f2 b0 y.f1 y.f2 = true
  · refine Ev.ite_pos h1 ?_
    by_cases h2 : lt3 b0 y.f1 y.f2 c0 z.f1 z.f2 = true
    · refine Ev.ite_pos h2 ?_
      rw [lt3_trans h1 h2]
      exact hj
    · exact Ev.ite_neg h2 hj
  · exact Ev.ite_neg h1 hj
end Go.Proofs.Ytcijcfdllfaghaa.Pure
