/- It is proved that the law EntryFind of package incipitlaw7 returns true at every input: the first entry that may be seen is found, of any sorted entries, and which entries are sorted is told as the reference tells it. No conditions. -/
import Derived.Test.YtcijcfdllfaghaaMEntx0
import Derived.Test.YtcijcfdllfaghaaMEntx2
import Derived.Test.YtcijcfdllfaghaaMEntx4
import Derived.Test.YtcijcfdllfaghaaMEntx7
import Derived.Test.YtcijcfdllfaghaaQEntSortedB
import Derived.Test.YtcijcfdllfaghaaQEntBsearch
namespace Go.Proofs.Ytcijcfdllfaghaa.Pure
open Go.RowKit Go.Proofs.Ytcijcfdllfaghaa.MEnt Go.Proofs.Ytcijcfdllfaghaa.QEnt Go.Proofs.YtcijcfdllfaghaaW.PrintWords Go.Proofs.YtcijcfdllfaghaaW.PrintLast Go.Proofs.YtcijcfdllfaghaaW.PrintMore
set_option linter.unusedVariables false
set_option linter.unusedSimpArgs false
def atB (a1 : ByteArray) (a2 : Int) (x : S23) : Bool := !(Op.bytesLess x.f0.toList a1.toList || x.f0.toList == a1.toList) || (x.f0.toList == a1.toList && decide (x.f1 ≤ a2))
def hitB (a1 : ByteArray) (a2 : Int) (x : S23) : Bool := x.f0.toList == a1.toList && decide (x.f1 ≤ a2)
theorem gt_eq (n a : List UInt8) : (!(Op.bytesLess n a || n == a)) = Op.bytesLess a n := by
  by_cases e : n = a
  · subst e; simp [bl_irrefl]
  · rw [bl_total n a e]; simp [e]
theorem atB_eq (a1 : ByteArray) (a2 : Int) (x : S23) : atB a1 a2 x = (Op.bytesLess a1.toList x.f0.toList || hitB a1 a2 x) := by unfold atB hitB; rw [gt_eq]
theorem atB_up {a1 : ByteArray} {a2 : Int} {x y : S23} (h : ltS x y = true) (hx : atB a1 a2 x = true) : atB a1 a2 y = true := by
  rw [atB_eq] at hx ⊢
  unfold hitB at hx ⊢
  unfold ltS lt3 at h
  by_cases e : x.f0.toList = y.f0.toList
  · rw [if_pos e] at h
    rw [e] at hx
    simp only [Bool.or_eq_true, Bool.and_eq_true, decide_eq_true_eq, beq_iff_eq] at hx ⊢
    rcases hx with hx | ⟨h1, h2⟩
    · exact .inl hx
    · refine .inr ⟨h1, ?_⟩
      by_cases f : x.f1 = y.f1
      · omega
      · rw [if_neg f, decide_eq_true_eq] at h; omega
  · rw [if_neg e] at h
    simp only [Bool.or_eq_true, Bool.and_eq_true, decide_eq_true_eq, beq_iff_eq] at hx ⊢
    rcases hx with hx | ⟨h1, h2⟩
    · exact .inl (bl_trans _ _ _ hx h)
    · rw [h1] at h; exact .inl h
def firstAt (a1 : ByteArray) (a2 : Int) : List S23 → Nat
  | [] => 0
  | x :: t => if atB a1 a2 x = true then 0 else firstAt a1 a2 t + 1
theorem firstAt_le (a1 : ByteArray) (a2 : Int) : ∀ l, firstAt a1 a2 l ≤ l.length
  | [] => Nat.le_refl _
  | x :: t => by unfold firstAt; split <;> simp [firstAt_le a1 a2 t]
theorem firstAt_iff (a1 : ByteArray) (a2 : Int) : ∀ (l : List S23), l.Pairwise srtR → ∀ i (h : i < l.length), (atB a1 a2 l[i] = true ↔ firstAt a1 a2 l ≤ i)
  | [], _, i, h => by simp at h
  | x :: t, hl, i, h => by
    obtain ⟨h1, h2⟩ := List.pairwise_cons.1 hl
    unfold firstAt
    by_cases c : atB a1 a2 x = true
    · rw [if_pos c]
      refine ⟨fun _ => Nat.zero_le _, fun _ => ?_⟩
      cases i with
      | zero => exact c
      | succ i => exact atB_up (h1 _ (List.getElem_mem _)).1 c
    · rw [if_neg c]
      cases i with
      | zero => exact ⟨fun z => absurd z c, fun z => by omega⟩
      | succ i =>
        have := firstAt_iff a1 a2 t h2 i (by simpa using h)
        rw [List.getElem_cons_succ, this]; omega
def rfind (a1 : ByteArray) (a2 : Int) : List S23 → Option S23
  | [] => none
  | x :: t => if hitB a1 a2 x = true then some x else rfind a1 a2 t
theorem rfind_none {a1 : ByteArray} {a2 : Int} : ∀ {l : List S23}, (∀ x ∈ l, hitB a1 a2 x = false) → rfind a1 a2 l = none
  | [], _ => rfl
  | x :: t, h => by
    unfold rfind
    rw [h x (List.mem_cons_self ..), if_neg (by simp)]
    exact rfind_none (fun y hy => h y (List.mem_cons_of_mem _ hy))
theorem find_same (a1 : ByteArray) (a2 : Int) : ∀ (l : List S23), l.Pairwise srtR → rfind a1 a2 l = if firstAt a1 a2 l < l.length then (if (l.getD (firstAt a1 a2 l) z23).f0.toList = a1.toList then some (l.getD (firstAt a1 a2 l) z23) else none) else none
  | [], _ => rfl
  | x :: t, hl => by
    obtain ⟨h1, h2⟩ := List.pairwise_cons.1 hl
    unfold rfind firstAt
    have h0 : 0 < (x :: t).length := by simp
    by_cases c : atB a1 a2 x = true
    · by_cases e : x.f0.toList = a1.toList
      · have hh : hitB a1 a2 x = true := by rw [atB_eq, e, bl_irrefl, Bool.false_or] at c; exact c
        rw [if_pos hh, if_pos c, if_pos h0, List.getD_cons_zero, if_pos e]
      · have hh : hitB a1 a2 x = false := by unfold hitB; simp [e]
        rw [hh, if_neg (by simp), if_pos c, if_pos h0, List.getD_cons_zero, if_neg e]
        rw [atB_eq, hh, Bool.or_false] at c
        refine rfind_none (fun y hy => ?_)
        have l1 := (h1 y hy).1
        unfold ltS lt3 at l1
        have c2 : Op.bytesLess a1.toList y.f0.toList = true := by
          by_cases f : x.f0.toList = y.f0.toList
          · rw [← f]; exact c
          · rw [if_neg f] at l1; exact bl_trans _ _ _ c l1
        have n2 : ¬ y.f0.toList = a1.toList := fun z => by rw [z, bl_irrefl] at c2; cases c2
        unfold hitB; simp [n2]
    · have hh : ¬ hitB a1 a2 x = true := fun z => c (by rw [atB_eq, z, Bool.or_true])
      rw [if_neg hh, if_neg c, find_same a1 a2 t h2, List.getD_cons_succ, List.length_cons]
      by_cases d : firstAt a1 a2 t < t.length
      · rw [if_pos d, if_pos (Nat.succ_lt_succ d)]
      · rw [if_neg d, if_neg (fun z => d (Nat.lt_of_succ_lt_succ z))]
def outF : Option S23 → ByteArray × Int × Int × ByteArray × ByteArray × Bool
  | none => ((⟨#[]⟩ : ByteArray), 0, 0, (⟨#[]⟩ : ByteArray), (⟨#[]⟩ : ByteArray), false)
  | some x => (x.f0, x.f1, x.f2, x.f3, x.f4, true)
theorem Find_eq (l : List S23) (a1 : ByteArray) (a2 : Int) (hl : l.length < 1000000) (hs : l.Pairwise srtR) : ikey_Find.f l a1 a2 = some (outF (rfind a1 a2 l)) := by
  have hbs : bsearch (findAt l a1 a2) l.length 0 l.length = firstAt a1 a2 l := by
    refine bsearch_eq _ _ l.length 0 l.length (by omega) (Nat.zero_le _) (firstAt_le a1 a2 l) (fun i _ hi => ?_)
    rw [← firstAt_iff a1 a2 l hs i hi]
    unfold findAt
    rw [rd_T23_nat l i hi]; rfl
  unfold ikey_Find.f
  rw [hbs, if_pos (by omega), find_same a1 a2 l hs]
  have e : rd_T23 l ((firstAt a1 a2 l : Nat) : Int) = l.getD (firstAt a1 a2 l) z23 := by unfold rd_T23; rw [Int.toNat_natCast]
  rw [e]
  by_cases c : firstAt a1 a2 l < l.length
  · rw [if_pos c, if_pos c]
    by_cases c2 : (l.getD (firstAt a1 a2 l) z23).f0.toList = a1.toList
    · rw [if_pos c2, if_pos c2]; rfl
    · rw [if_neg c2, if_neg c2]; rfl
  · rw [if_neg c, if_neg c]; rfl
theorem rFind_l0 (l : List S23) (a1 : ByteArray) (a2 : Int) (hl : l.length < 1000000) (d : Nat) : ∀ i : Nat, l.length - i = d → Ev (fun k => incipitref12_Find.l0 k l a1 a2 (i : Int)) (outF (rfind a1 a2 (l.drop i))) := by
  induction d with
  | zero =>
    intro i hd
    refine Ev.succ ?_
    simp only [incipitref12_Find.l0]
    rw [List.drop_eq_nil_of_le (by omega)]
    exact Ev.ite_neg (by omega) (Ev.now _)
  | succ d ih =>
    intro i hd
    have hlt : i < l.length := by omega
    have en : wrap64 ((i : Int) + 1) = ((i + 1 : Nat) : Int) := by rw [wrap64_id (by omega) (by omega)]; omega
    refine Ev.succ ?_
    simp only [incipitref12_Find.l0, rd_T23_nat l i hlt, en]
    rw [List.drop_eq_getElem_cons hlt]
    unfold rfind
    refine Ev.ite_pos (by omega) (Ev.ite_pos (by omega) ?_)
    by_cases c : l[i].f0.toList = a1.toList
    · refine Ev.ite_pos c ?_
      by_cases c2 : l[i].f1 ≤ a2
      · rw [if_pos (by unfold hitB; simp [c, c2])]
        exact Ev.ite_pos c2 (Ev.now _)
      · rw [if_neg (by unfold hitB; simp [c2])]
        exact Ev.ite_neg c2 (ih (i + 1) (by omega))
    · rw [if_neg (by unfold hitB; simp [c])]
      exact Ev.ite_neg c (ih (i + 1) (by omega))
theorem rEq_self (a0 : ByteArray) (a1 a2 : Int) (a3 a4 : ByteArray) : incipitref12_Eq.f a0 a1 a2 a3 a4 a0 a1 a2 a3 a4 = some true := by
  unfold incipitref12_Eq.f; simp
theorem EntryFind : ∀ (l0 : List S23) (a1 : ByteArray) (a2 : Int), (l0.length ≤ maxLen ∧ ∀ x ∈ l0, (x.f0.size ≤ maxLen ∧ (Lit.int .i64 x.f1).wf = true ∧ (Lit.int .i64 x.f2).wf = true ∧ x.f3.size ≤ maxLen ∧ x.f4.size ≤ maxLen)) → a1.size ≤ maxLen → (Lit.int .i64 a2).wf = true → ∃ k, incipitlaw7_EntryFind.f k l0 a1 a2 = some true := by
  intro l a1 a2 _ _ _
  refine Ev.rounds (g := fun k => incipitlaw7_EntryFind.f k l a1 a2) ?_
  unfold incipitlaw7_EntryFind.f
  refine Ev.bind begun_ev (Ev.ite_pos rfl ?_)
  obtain ⟨raw, r1, r2⟩ := CutAll_ev l 30 (by omega)
  obtain ⟨t, t1, t2, t3, _⟩ := Sort_ev l 30 (by omega)
  refine Ev.bind r1 (Ev.bind t1 ?_)
  refine Ev.bind (Ev.same (Find_eq t a1 a2 (by omega) t3)) (Ev.bind (rFind_l0 t a1 a2 (by omega) t.length 0 rfl) ?_)
  refine Ev.bind (Sorted_ev raw (by omega)) (Ev.bind (rSorted_ev raw (by omega)) (Ev.ite_pos (by simp) ?_))
  refine Ev.bind (Sorted_ev t (by omega)) (Ev.ite_pos (srt_of t t3) ?_)
  rw [List.drop_zero]
  refine Ev.ite_pos (by simp) ?_
  exact Ev.bind (Ev.same (rEq_self _ _ _ _ _)) (Ev.now _)
end Go.Proofs.Ytcijcfdllfaghaa.Pure
