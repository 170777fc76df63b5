/- Entries come into sorted ones: incipitref12.Into, incipitlaw7.Sort, CutAll. -/
import Derived.Test.YtcijcfdllfaghaaMDrpx0
import Derived.Test.YtcijcfdllfaghaaMDrpx1
import Derived.Test.YtcijcfdllfaghaaMDrpx12
import Derived.Test.YtcijcfdllfaghaaMDrpx2
import Derived.Test.YtcijcfdllfaghaaMDrpx3
import Derived.Test.YtcijcfdllfaghaaQDrpLt3R
namespace Go.Proofs.Ytcijcfdllfaghaa.QDrp
open Go.RowKit Go.Proofs.Ytcijcfdllfaghaa.MDrp Go.Proofs.Ytcijcfdllfaghaa.QDrp Go.Proofs.YtcijcfdllfaghaaW.PrintWords Go.Proofs.YtcijcfdllfaghaaW.PrintLast Go.Proofs.YtcijcfdllfaghaaW.PrintMore
set_option linter.unusedVariables false
set_option linter.unusedSimpArgs false
def ltS (a b : S23) : Bool := lt3 a.f0 a.f1 a.f2 b.f0 b.f1 b.f2
/-- Sorted, and no two of one form and number. -/
def srtR (a b : S23) : Prop := ltS a b = true ∧ ¬ (a.f0.toList = b.f0.toList ∧ a.f1 = b.f1)
def ins (e : S23) : List S23 → List S23
  | [] => [e]
  | x :: t => if ltS e x = true then e :: x :: t else x :: ins e t
theorem ins_length (e : S23) : ∀ l, (ins e l).length = l.length + 1
  | [] => rfl
  | x :: t => by unfold ins; split <;> simp [ins_length e t]
theorem mem_ins (e x : S23) : ∀ l, x ∈ ins e l ↔ x = e ∨ x ∈ l
  | [] => by simp [ins]
  | y :: t => by
    unfold ins; split
    · simp
    · simp only [List.mem_cons, mem_ins e x t]
      constructor
      · rintro (h | h | h)
        · exact .inr (.inl h)
        · exact .inl h
        · exact .inr (.inr h)
      · rintro (h | h | h)
        · exact .inr (.inl h)
        · exact .inl h
        · exact .inr (.inr h)
def dupB (e x : S23) : Bool := (x.f0.toList == e.f0.toList) && (x.f1 == e.f1)
theorem dupB_false {e x : S23} (h : dupB e x = false) : ¬ (x.f0.toList = e.f0.toList ∧ x.f1 = e.f1) := by
  rintro ⟨h1, h2⟩
  simp [dupB, h1, h2] at h
theorem ltS_trans {a b c : S23} (h1 : ltS a b = true) (h2 : ltS b c = true) : ltS a c = true := lt3_trans h1 h2
theorem srtR_trans {a b c : S23} (h1 : srtR a b) (h2 : srtR b c) : srtR a c := by
  refine ⟨ltS_trans h1.1 h2.1, fun h => ?_⟩
  obtain ⟨a1, a2⟩ := h1
  obtain ⟨b1, b2⟩ := h2
  unfold ltS lt3 at a1 b1
  by_cases e1 : a.f0.toList = b.f0.toList
  · rw [if_pos e1] at a1
    have e2 : b.f0.toList = c.f0.toList := e1.symm.trans h.1
    rw [if_pos e2] at b1
    have f1 : ¬ a.f1 = b.f1 := fun z => a2 ⟨e1, z⟩
    have f2 : ¬ b.f1 = c.f1 := fun z => b2 ⟨e2, z⟩
    rw [if_neg f1] at a1
    rw [if_neg f2] at b1
    have := h.2
    simp only [decide_eq_true_eq] at a1 b1
    omega
  · rw [if_neg e1] at a1
    have e2 : ¬ b.f0.toList = c.f0.toList := fun z => e1 (h.1.trans z.symm)
    rw [if_neg e2] at b1
    have := bl_trans _ _ _ a1 b1
    rw [h.1, bl_irrefl] at this
    cases this
theorem ins_sorted (e : S23) : ∀ l : List S23, l.Pairwise srtR → (∀ x ∈ l, dupB e x = false) → (ins e l).Pairwise srtR
  | [], _, _ => by simp [ins]
  | x :: t, hl, hd => by
    obtain ⟨h1, h2⟩ := List.pairwise_cons.1 hl
    have hx := dupB_false (hd x (List.mem_cons_self ..))
    unfold ins; split
    · next c =>
      have r : srtR e x := ⟨c, fun h => hx ⟨h.1.symm, h.2.symm⟩⟩
      refine List.pairwise_cons.2 ⟨fun y hy => ?_, hl⟩
      rcases List.mem_cons.1 hy with rfl | hy
      · exact r
      · exact srtR_trans r (h1 y hy)
    · next c =>
      have r : srtR x e := by
        refine ⟨?_, hx⟩
        have := lt3_swap e.f0 e.f1 e.f2 x.f0 x.f1 x.f2 (fun h => hx ⟨h.1.symm, h.2.1.symm⟩)
        unfold ltS at c ⊢
        rw [this]
        simp only [Bool.not_eq_true] at c
        rw [c]; rfl
      refine List.pairwise_cons.2 ⟨fun y hy => ?_, ins_sorted e t h2 (fun y hy => hd y (List.mem_cons_of_mem _ hy))⟩
      rcases (mem_ins e y t).1 hy with rfl | hy
      · exact r
      · exact h1 y hy
theorem rd_T23_nat (l : List S23) (i : Nat) (h : i < l.length) : rd_T23 l (i : Int) = l[i] := by
  unfold rd_T23; rw [Int.toNat_natCast, List.getD_eq_getElem?_getD, List.getElem?_eq_getElem h]; rfl
theorem Into_l0 (l : List S23) (e : S23) (hl : l.length < 1000000) (d : Nat) : ∀ i : Nat, l.length - i = d → i ≤ l.length → Ev (fun k => incipitref12_Into.l0 k l (i : Int) e.f0 e.f1 e.f2 e.f3 e.f4) (l.take i ++ ins e (l.drop i)) := by
  induction d with
  | zero =>
    intro i hd hi
    have hi2 : i = l.length := by omega
    refine Ev.succ ?_
    simp only [incipitref12_Into.l0, Option.bind_some, Int.toNat_natCast]
    refine Ev.ite_neg (by omega) (Ev.ite_pos (by omega) (Ev.ite_pos (by omega) ?_))
    refine Ev.ite_pos (by simp only [List.length_cons, List.length_nil, List.length_drop]; omega) (Ev.ite_pos (by simp only [List.length_append, List.length_cons, List.length_nil, List.length_drop, List.length_take]; omega) (Ev.same ?_))
    rw [List.drop_eq_nil_of_le (by omega)]; rfl
  | succ d ih =>
    intro i hd hi
    have hlt : i < l.length := by omega
    refine Ev.succ ?_
    simp only [incipitref12_Into.l0, Option.bind_some, Int.toNat_natCast, rLess_lt3, rd_T23_nat l i hlt]
    refine Ev.ite_pos (by omega) (Ev.ite_pos (by omega) ?_)
    rw [List.drop_eq_getElem_cons hlt]
    unfold ins
    by_cases c : ltS e l[i] = true
    · rw [if_pos c]
      refine Ev.ite_pos c (Ev.ite_pos (by omega) ?_)
      refine Ev.ite_pos (by simp only [List.length_cons, List.length_nil, List.length_drop]; omega) (Ev.ite_pos (by simp only [List.length_append, List.length_cons, List.length_nil, List.length_drop, List.length_take]; omega) (Ev.same rfl))
    · rw [if_neg c]
      refine Ev.ite_neg c ?_
      rw [wrap64_id (n := (i : Int) + 1) (by omega) (by omega)]
      have := ih (i + 1) (by omega) (by omega)
      rw [List.take_succ_eq_append_getElem hlt, List.append_assoc] at this
      exact this
theorem Into_ev (l : List S23) (e : S23) (hl : l.length < 1000000) : Ev (fun k => incipitref12_Into.f k l e.f0 e.f1 e.f2 e.f3 e.f4) (ins e l) := Into_l0 l e hl l.length 0 rfl (Nat.zero_le _)
theorem Cut1_size (s : ByteArray) (n : Nat) : ∃ t, incipitlaw1_Cut.f s (n : Int) = some t ∧ t.size ≤ n := by
  unfold incipitlaw1_Cut.f
  by_cases c : (s.size : Int) > n
  · rw [if_pos c, if_pos (by omega), if_pos (by omega)]
    refine ⟨_, rfl, ?_⟩
    rw [ByteArray.size_extract]; omega
  · rw [if_neg c]; exact ⟨_, rfl, by omega⟩
theorem Cut_size (a0 : ByteArray) (a1 a2 : Int) (a3 a4 : ByteArray) : ∃ c0 c3 c4, incipitlaw7_Cut.f a0 a1 a2 a3 a4 = some (c0, a1, a2, c3, c4) ∧ c0.size ≤ 30 ∧ c3.size ≤ 30 ∧ c4.size ≤ 60 := by
  obtain ⟨c0, h0, s0⟩ := Cut1_size a0 30
  obtain ⟨c3, h3, s3⟩ := Cut1_size a3 30
  obtain ⟨c4, h4, s4⟩ := Cut1_size a4 60
  have e30 : ((30 : Nat) : Int) = 30 := rfl
  have e60 : ((60 : Nat) : Int) = 60 := rfl
  rw [e30] at h0 h3
  rw [e60] at h4
  refine ⟨c0, c3, c4, ?_, s0, s3, s4⟩
  unfold incipitlaw7_Cut.f
  rw [h0, h3, h4]; rfl
/-- What may stand in a table. -/
def okE (x : S23) : Prop := (1 ≤ x.f1 ∧ x.f1 ≤ 1125899906842624) ∧ (x.f2 = 0 ∨ x.f2 = 1) ∧ x.f0.size ≤ 30 ∧ x.f3.size ≤ 30 ∧ x.f4.size ≤ 60 ∧ (x.f2 = 0 → x.f4 = ⟨#[]⟩)
theorem Sort_l1 {l out : List S23} {n : Int} {i : Nat} {R : List S23} (e : S23) (ho : out.length < 1000000) (hi : i < 1000000) (d : Nat) : ∀ (q : Nat) (th : Bool), out.length - q = d →
    ((th || (out.drop q).any (dupB e)) = true → Ev (fun k => incipitlaw7_Sort.l0 k l n out ((i + 1 : Nat) : Int)) R) →
    ((th || (out.drop q).any (dupB e)) = false → Ev (fun k => incipitlaw7_Sort.l0 k l n (ins e out) ((i + 1 : Nat) : Int)) R) →
    Ev (fun k => incipitlaw7_Sort.l1 k l n out (i : Int) th (q : Int) e.f0 e.f1 e.f2 e.f3 e.f4) R := by
  induction d with
  | zero =>
    intro q th hd h1 h2
    rw [List.drop_eq_nil_of_le (by omega)] at h1 h2
    simp only [List.any_nil, Bool.or_false] at h1 h2
    refine Ev.succ ?_
    simp only [incipitlaw7_Sort.l1]
    refine Ev.ite_neg (by omega) ?_
    rw [wrap64_id (n := (i : Int) + 1) (by omega) (by omega)]
    cases th with
    | true => exact Ev.ite_pos rfl (h1 rfl)
    | false => exact Ev.ite_neg (by simp) (Ev.bind (Into_ev out e ho) (h2 rfl))
  | succ d ih =>
    intro q th hd h1 h2
    have hq : q < out.length := by omega
    rw [List.drop_eq_getElem_cons hq, List.any_cons] at h1 h2
    refine Ev.succ ?_
    simp only [incipitlaw7_Sort.l1, rd_T23_nat out q hq]
    refine Ev.ite_pos (by omega) ?_
    rw [wrap64_id (n := (q : Int) + 1) (by omega) (by omega)]
    cases th with
    | true =>
      refine Ev.ite_pos rfl (ih (q + 1) true (by omega) (fun _ => h1 rfl) (fun z => by simp at z))
    | false =>
      refine Ev.ite_neg (by simp) (Ev.ite_pos (by omega) ?_)
      simp only [Bool.false_or] at h1 h2
      by_cases c : out[q].f0.toList = e.f0.toList
      · refine Ev.ite_pos c ?_
        have hb : dupB e out[q] = (out[q].f1 == e.f1) := by unfold dupB; rw [c]; simp
        rw [hb] at h1 h2
        exact ih (q + 1) _ (by omega) h1 h2
      · refine Ev.ite_neg c ?_
        have hb : dupB e out[q] = false := by unfold dupB; simp [c]
        rw [hb] at h1 h2
        exact ih (q + 1) false (by omega) h1 h2
theorem Sort_step {l out : List S23} {n : Int} {i : Nat} {R : List S23} (e : S23) (ho : out.length < 1000000) (hi : i < 1000000)
    (h1 : out.any (dupB e) = true → Ev (fun k => incipitlaw7_Sort.l0 k l n out ((i + 1 : Nat) : Int)) R)
    (h2 : out.any (dupB e) = false → Ev (fun k => incipitlaw7_Sort.l0 k l n (ins e out) ((i + 1 : Nat) : Int)) R) :
    Ev (fun k => incipitlaw7_Sort.j3 k l n out (i : Int) e.f0 e.f1 e.f2 e.f3 e.f4) R := by
  refine Ev.succ ?_
  simp only [incipitlaw7_Sort.j3]
  exact Sort_l1 e ho hi out.length 0 false rfl h1 h2
theorem Sort_l0 (l : List S23) (n : Nat) (hn : n ≤ 1000) (d : Nat) : ∀ (i : Nat) (out : List S23), min l.length n - i = d → i ≤ n → out.length ≤ i → out.Pairwise srtR → (∀ x ∈ out, okE x) →
    ∃ t, Ev (fun k => incipitlaw7_Sort.l0 k l (n : Int) out (i : Int)) t ∧ t.length ≤ n ∧ t.Pairwise srtR ∧ ∀ x ∈ t, okE x := by
  have stop : ∀ (i : Nat) (out : List S23), ¬ (i < l.length ∧ i < n) → Ev (fun k => incipitlaw7_Sort.l0 k l (n : Int) out (i : Int)) out := by
    intro i out h
    refine Ev.succ ?_
    simp only [incipitlaw7_Sort.l0]
    have fin : Ev (fun k => incipitlaw7_Sort.j1 k l (n : Int) out (i : Int) false) out := by
      refine Ev.succ ?_
      simp only [incipitlaw7_Sort.j1]
      exact Ev.ite_neg (by simp) (Ev.now _)
    by_cases c : i < l.length
    · refine Ev.ite_pos (by omega) ?_
      rw [show decide ((i : Int) < (n : Int)) = false from decide_eq_false (by omega)]
      exact fin
    · exact Ev.ite_neg (by omega) fin
  induction d with
  | zero =>
    intro i out hd hi ho hs hk
    exact ⟨out, stop i out (by omega), by omega, hs, hk⟩
  | succ d ih =>
    intro i out hd hi ho hs hk
    have hlt : i < l.length := by omega
    obtain ⟨c0, c3, c4, hc, s0, s3, s4⟩ := Cut_size l[i].f0 l[i].f1 l[i].f2 l[i].f3 l[i].f4
    have skip : ∀ (b : Bool), b = true → ∃ t, (∃ b', b' = b ∧ Ev (fun k => incipitlaw7_Sort.j2 k l (n : Int) out (i : Int) b c0 l[i].f1 l[i].f2 c3 c4) t) ∧ t.length ≤ n ∧ t.Pairwise srtR ∧ ∀ x ∈ t, okE x := by
      rintro _ rfl
      obtain ⟨t, h1, h2⟩ := ih (i + 1) out (by omega) (by omega) (by omega) hs hk
      refine ⟨t, ⟨_, rfl, Ev.succ ?_⟩, h2⟩
      simp only [incipitlaw7_Sort.j2]
      refine Ev.ite_pos trivial ?_
      rw [wrap64_id (n := (i : Int) + 1) (by omega) (by omega)]
      exact h1
    have enter : ∃ t, Ev (fun k => incipitlaw7_Sort.l0 k l (n : Int) out (i : Int)) t ∧ t.length ≤ n ∧ t.Pairwise srtR ∧ ∀ x ∈ t, okE x := by
      have go : ∀ (t : List S23), Ev (fun k => if l[i].f1 < 1 then incipitlaw7_Sort.j2 k l (n : Int) out (i : Int) true c0 l[i].f1 l[i].f2 c3 c4 else if l[i].f1 > 1125899906842624 then incipitlaw7_Sort.j2 k l (n : Int) out (i : Int) true c0 l[i].f1 l[i].f2 c3 c4 else if l[i].f2 = 1 then incipitlaw7_Sort.j2 k l (n : Int) out (i : Int) false c0 l[i].f1 l[i].f2 c3 c4 else incipitlaw7_Sort.j2 k l (n : Int) out (i : Int) (l[i].f2 != 0) c0 l[i].f1 l[i].f2 c3 c4) t → Ev (fun k => incipitlaw7_Sort.l0 k l (n : Int) out (i : Int)) t := by
        intro t ht
        refine Ev.succ ?_
        simp only [incipitlaw7_Sort.l0]
        refine Ev.ite_pos (by omega) ?_
        rw [show decide ((i : Int) < (n : Int)) = true from decide_eq_true (by omega)]
        refine Ev.succ ?_
        simp only [incipitlaw7_Sort.j1, rd_T23_nat l i hlt, hc, Option.bind_some]
        exact Ev.ite_pos trivial (Ev.ite_pos (by omega) (Ev.ite_pos (by omega) ht))
      by_cases b1 : l[i].f1 < 1
      · obtain ⟨t, ⟨_, _, h1⟩, h2⟩ := skip true rfl
        exact ⟨t, go t (Ev.ite_pos b1 h1), h2⟩
      by_cases b2 : l[i].f1 > 1125899906842624
      · obtain ⟨t, ⟨_, _, h1⟩, h2⟩ := skip true rfl
        exact ⟨t, go t (Ev.ite_neg b1 (Ev.ite_pos b2 h1)), h2⟩
      have main : ∀ (v : ByteArray), okE ⟨c0, l[i].f1, l[i].f2, c3, v⟩ → ∃ t, Ev (fun k => incipitlaw7_Sort.j3 k l (n : Int) out (i : Int) c0 l[i].f1 l[i].f2 c3 v) t ∧ t.length ≤ n ∧ t.Pairwise srtR ∧ ∀ x ∈ t, okE x := by
        intro v hv
        cases hdup : out.any (dupB ⟨c0, l[i].f1, l[i].f2, c3, v⟩) with
        | true =>
          obtain ⟨t, h1, h2⟩ := ih (i + 1) out (by omega) (by omega) (by omega) hs hk
          exact ⟨t, Sort_step ⟨c0, l[i].f1, l[i].f2, c3, v⟩ (by omega) (by omega) (fun _ => h1) (fun z => by rw [hdup] at z; cases z), h2⟩
        | false =>
          obtain ⟨t, h1, h2⟩ := ih (i + 1) (ins ⟨c0, l[i].f1, l[i].f2, c3, v⟩ out) (by omega) (by omega) (by rw [ins_length]; omega) (ins_sorted _ _ hs (fun x hx => (by
            cases hb : dupB ⟨c0, l[i].f1, l[i].f2, c3, v⟩ x with
            | false => rfl
            | true => rw [List.any_eq_true.2 ⟨x, hx, hb⟩] at hdup; cases hdup))) (fun x hx => (by
              rcases (mem_ins _ x out).1 hx with rfl | hx
              · exact hv
              · exact hk x hx))
          exact ⟨t, Sort_step ⟨c0, l[i].f1, l[i].f2, c3, v⟩ (by omega) (by omega) (fun z => by rw [hdup] at z; cases z) (fun _ => h1), h2⟩
      by_cases b3 : l[i].f2 = 1
      · obtain ⟨t, h1, h2⟩ := main c4 ⟨⟨Int.not_lt.1 b1, Int.not_lt.1 b2⟩, .inr b3, s0, s3, s4, fun z => absurd (z.symm.trans b3) (by decide)⟩
        refine ⟨t, go t (Ev.ite_neg b1 (Ev.ite_neg b2 (Ev.ite_pos b3 (Ev.succ ?_)))), h2⟩
        simp only [incipitlaw7_Sort.j2]
        exact Ev.ite_neg (by simp) (Ev.ite_neg (by rw [b3]; decide) h1)
      by_cases b4 : l[i].f2 = 0
      · obtain ⟨t, h1, h2⟩ := main ⟨#[]⟩ ⟨⟨Int.not_lt.1 b1, Int.not_lt.1 b2⟩, .inl b4, s0, s3, by show (0 : Nat) ≤ 60; omega, fun _ => rfl⟩
        refine ⟨t, go t (Ev.ite_neg b1 (Ev.ite_neg b2 (Ev.ite_neg b3 ?_))), h2⟩
        rw [show (l[i].f2 != 0) = false by rw [b4]; rfl]
        refine Ev.succ ?_
        simp only [incipitlaw7_Sort.j2]
        exact Ev.ite_neg (by simp) (Ev.ite_pos b4 h1)
      · obtain ⟨t, ⟨_, _, h1⟩, h2⟩ := skip (l[i].f2 != 0) (bne_iff_ne.2 b4)
        exact ⟨t, go t (Ev.ite_neg b1 (Ev.ite_neg b2 (Ev.ite_neg b3 h1))), h2⟩
    exact enter
theorem Sort_ev (l : List S23) (n : Nat) (hn : n ≤ 1000) : ∃ t, Ev (fun k => incipitlaw7_Sort.f k l (n : Int)) t ∧ t.length ≤ n ∧ t.Pairwise srtR ∧ ∀ x ∈ t, okE x :=
  Sort_l0 l n hn (min l.length n) 0 [] rfl (Nat.zero_le _) (Nat.le_refl _) List.Pairwise.nil (fun x hx => by cases hx)
end Go.Proofs.Ytcijcfdllfaghaa.QDrp
