import Derived.WalkKit
namespace Go.Proofs.Ytoglanahjlfihaa.QLst
set_option linter.unusedVariables false
set_option linter.unusedSimpArgs false
/-- A node: its block, its row's block, what it bears, its height. -/
structure Nd (α : Type) where
  b : Nat
  n : Nat
  e : α
  h : Nat
variable {α : Type}
def nxt (l : List (Nd α)) (k : Nat) : Option Nat := (l.find? (fun x => decide (k < x.h))).map Nd.b
/-- The last one of a height. -/
def LastAt (pre : List (Nd α)) (k : Nat) (y : Nd α) : Prop := ∃ a c, pre = a ++ y :: c ∧ k < y.h ∧ ∀ z ∈ c, ¬ k < z.h
/-- Each row leads to the next one of its height. -/
def Lk (ns : List (Nd α)) (G : Nat → Nat → Option Nat) : Prop := ∀ a y c, ns = a ++ y :: c → ∀ k, k < y.h → G y.b k = nxt c k
def upd (G : Nat → Nat → Option Nat) (b k : Nat) (v : Option Nat) : Nat → Nat → Option Nat := fun b' k' => if b' = b ∧ k' = k then v else G b' k'
theorem nxt_skip {c d : List (Nd α)} {k : Nat} (h : ∀ z ∈ c, ¬ k < z.h) : nxt (c ++ d) k = nxt d k := by
  unfold nxt
  rw [List.find?_append, List.find?_eq_none.2 (fun z hz => by simpa using h z hz), Option.none_or]
theorem nxt_mid {c d : List (Nd α)} {y : Nd α} {k : Nat} (h : ∀ z ∈ c, ¬ k < z.h) (hy : k < y.h) : nxt (c ++ y :: d) k = some y.b := by
  rw [nxt_skip h]
  unfold nxt
  rw [List.find?_cons_of_pos (by simpa using hy)]; rfl
theorem nxt_low {c d : List (Nd α)} {x : Nd α} {k : Nat} (hx : ¬ k < x.h) : nxt (c ++ x :: d) k = nxt (c ++ d) k := by
  unfold nxt
  rw [List.find?_append, List.find?_append, List.find?_cons_of_neg (by simpa using hx)]
theorem nxt_some {c : List (Nd α)} {k b : Nat} (h : nxt c k = some b) : ∃ c1 z c2, c = c1 ++ z :: c2 ∧ z.b = b ∧ k < z.h ∧ ∀ y ∈ c1, ¬ k < y.h := by
  unfold nxt at h
  rw [Option.map_eq_some_iff] at h
  obtain ⟨z, hz, hb⟩ := h
  rw [List.find?_eq_some_iff_append] at hz
  obtain ⟨hk, c1, c2, e, hn⟩ := hz
  exact ⟨c1, z, c2, e, hb, by simpa using hk, fun y hy => by simpa using hn y hy⟩
theorem nxt_none {c : List (Nd α)} {k : Nat} (h : nxt c k = none) : ∀ z ∈ c, ¬ k < z.h := by
  unfold nxt at h
  rw [Option.map_eq_none_iff, List.find?_eq_none] at h
  exact fun z hz => by simpa using h z hz
/-- Two ways to part one list, one not behind the other. -/
theorem part2 {a c a' c' : List (Nd α)} {y y' : Nd α} (h : a ++ y :: c = a' ++ y' :: c') : (∃ t, a' = a ++ y :: t ∧ c = t ++ y' :: c') ∨ (a = a' ∧ y = y' ∧ c = c') ∨ (∃ t, a = a' ++ y' :: t ∧ c' = t ++ y :: c) := by
  rcases List.append_eq_append_iff.1 h with ⟨t, h1, h2⟩ | ⟨t, h1, h2⟩
  · cases t with
    | nil => simp only [List.append_nil, List.nil_append, List.cons.injEq] at h1 h2; exact .inr (.inl ⟨h1.symm, h2.1, h2.2⟩)
    | cons z t => simp only [List.cons_append, List.cons.injEq] at h2; obtain ⟨rfl, h2⟩ := h2; exact .inl ⟨t, h1, h2⟩
  · cases t with
    | nil => simp only [List.append_nil, List.nil_append, List.cons.injEq] at h1 h2; exact .inr (.inl ⟨h1, h2.1.symm, h2.2.symm⟩)
    | cons z t => simp only [List.cons_append, List.cons.injEq] at h2; obtain ⟨rfl, h2⟩ := h2; exact .inr (.inr ⟨t, h1, h2⟩)
/-- A new node put between, its levels below j done. -/
def LkJ (pre : List (Nd α)) (x : Nd α) (post : List (Nd α)) (G : Nat → Nat → Option Nat) (j : Nat) : Prop :=
  (∀ a y c, pre = a ++ y :: c → ∀ k, k < y.h → G y.b k = if k < j then nxt (c ++ x :: post) k else nxt (c ++ post) k) ∧ (∀ a y c, post = a ++ y :: c → ∀ k, k < y.h → G y.b k = nxt c k) ∧ (∀ k, k < j → G x.b k = nxt post k)
theorem LkJ.start {pre post : List (Nd α)} {x : Nd α} {G : Nat → Nat → Option Nat} (h : Lk (pre ++ post) G) : LkJ pre x post G 0 := by
  refine ⟨fun a y c e k hk => ?_, fun a y c e k hk => ?_, fun k hk => absurd hk (Nat.not_lt_zero _)⟩
  · rw [if_neg (Nat.not_lt_zero _)]
    exact h a y (c ++ post) (by rw [e, List.append_assoc, List.cons_append]) k hk
  · exact h (pre ++ a) y c (by rw [e, List.append_assoc]) k hk
theorem LkJ.done {pre post : List (Nd α)} {x : Nd α} {G : Nat → Nat → Option Nat} (h : LkJ pre x post G x.h) : Lk (pre ++ x :: post) G := by
  intro a y c e k hk
  obtain ⟨h1, h2, h3⟩ := h
  rcases part2 e with ⟨t, e1, e2⟩ | ⟨e1, e2, e3⟩ | ⟨t, e1, e2⟩
  · exact h2 t y c e2 k hk
  · subst e2; subst e3; exact h3 k hk
  · rw [h1 a y t e1 k hk, e2]
    by_cases hx : k < x.h
    · rw [if_pos hx]
    · rw [if_neg hx, nxt_low hx]
/-- Blocks of nodes stand once. -/
def Apart (ns : List (Nd α)) : Prop := (ns.flatMap fun y => [y.b, y.n]).Nodup
theorem Apart.ne {ns a t c : List (Nd α)} {y z : Nd α} (h : Apart ns) (e : ns = a ++ y :: (t ++ z :: c)) : y.b ≠ z.b := by
  unfold Apart at h
  rw [e] at h
  simp only [List.flatMap_append, List.flatMap_cons, List.nodup_append, List.mem_append, List.mem_cons] at h
  exact fun hh => h.2.1.2.2 y.b (.inl rfl) z.b (.inr (.inl (.inl rfl))) hh
theorem Apart.ne_mem {a c : List (Nd α)} {x y : Nd α} (h : Apart (a ++ x :: c)) (hy : y ∈ a ++ c) : y.b ≠ x.b := by
  rcases List.mem_append.1 hy with hm | hm
  · obtain ⟨s, t, e⟩ := List.append_of_mem hm
    exact h.ne (a := s) (t := t) (c := c) (by rw [e]; simp)
  · obtain ⟨s, t, e⟩ := List.append_of_mem hm
    exact fun hh => h.ne (a := a) (t := s) (c := t) (by rw [e]) hh.symm
theorem LkJ.step {pre post : List (Nd α)} {x y : Nd α} {G : Nat → Nat → Option Nat} {j : Nat} (h : LkJ pre x post G j) (hj : j < x.h) (hl : LastAt pre j y) (ha : Apart (pre ++ x :: post)) :
    G y.b j = nxt post j ∧ LkJ pre x post (upd (upd G x.b j (nxt post j)) y.b j (some x.b)) (j + 1) := by
  obtain ⟨a, c, e, hk, hc⟩ := hl
  obtain ⟨h1, h2, h3⟩ := h
  have hy : G y.b j = nxt post j := by
    rw [h1 a y c e j hk, if_neg (Nat.lt_irrefl _), nxt_skip hc]
  have hyx : x.b ≠ y.b := fun hh => ha.ne_mem (y := y) (by rw [e]; simp) hh.symm
  refine ⟨hy, fun a' y' c' e' k hk' => ?_, fun a' y' c' e' k hk' => ?_, fun k hk' => ?_⟩
  · have hx' : y'.b ≠ x.b := ha.ne_mem (by rw [e']; simp)
    by_cases hkj : k = j
    · subst hkj
      rw [if_pos (Nat.lt_succ_self _)]
      rcases part2 (e.symm.trans e') with ⟨t, _, e2⟩ | ⟨_, e2, e3⟩ | ⟨t, e1, e2⟩
      · exact absurd hk' (hc y' (by rw [e2]; simp))
      · subst e2; subst e3
        unfold upd
        rw [if_pos ⟨rfl, rfl⟩, nxt_mid hc hj]
      · have hne : y'.b ≠ y.b := ha.ne (a := a') (t := t) (c := c ++ x :: post) (by rw [e', e2]; simp)
        unfold upd
        rw [if_neg (fun hh => hne hh.1), if_neg (fun hh => hx' hh.1), h1 a' y' c' e' k hk', if_neg (Nat.lt_irrefl _), e2]
        by_cases ht : ∀ z ∈ t, ¬ k < z.h
        · rw [List.append_assoc, List.append_assoc, List.cons_append, List.cons_append, nxt_mid ht hk, nxt_mid ht hk]
        · have hq : ∃ v, nxt t k = some v := by
            cases hn : nxt t k with
            | none => exact absurd (nxt_none hn) ht
            | some v => exact ⟨v, rfl⟩
          obtain ⟨v, hv⟩ := hq
          obtain ⟨c1, z, c2, et, _, hz, hc1⟩ := nxt_some hv
          rw [et]
          simp only [List.append_assoc, List.cons_append]
          rw [nxt_mid hc1 hz, nxt_mid hc1 hz]
    · have hkk : (k < j + 1) = (k < j) := propext ⟨fun _ => by omega, fun _ => by omega⟩
      unfold upd
      rw [if_neg (fun hh => hkj hh.2), if_neg (fun hh => hkj hh.2), h1 a' y' c' e' k hk']
      by_cases hlt : k < j
      · rw [if_pos hlt, if_pos (by omega)]
      · rw [if_neg hlt, if_neg (by omega)]
  · have hne : y'.b ≠ y.b := by
      obtain ⟨a2, rfl⟩ : ∃ a2, a2 = a' := ⟨_, rfl⟩
      exact fun hh => ha.ne (a := a) (t := c ++ x :: a2) (c := c') (y := y) (z := y') (by rw [e, e']; simp) hh.symm
    have hx' : y'.b ≠ x.b := ha.ne_mem (by rw [e']; simp)
    unfold upd
    rw [if_neg (fun hh => hne hh.1), if_neg (fun hh => hx' hh.1)]
    exact h2 a' y' c' e' k hk'
  · unfold upd
    rw [if_neg (fun hh => hyx hh.1)]
    by_cases hkj : k = j
    · rw [if_pos ⟨rfl, hkj⟩, hkj]
    · rw [if_neg (fun hh => hkj hh.2)]
      exact h3 k (by omega)
theorem part_app {c post c1 c2 : List (Nd α)} {z : Nd α} (h : c ++ post = c1 ++ z :: c2) : (∃ t, c = c1 ++ z :: t ∧ c2 = t ++ post) ∨ (∃ s, c1 = c ++ s ∧ post = s ++ z :: c2) := by
  rcases List.append_eq_append_iff.1 h with ⟨t, h1, h2⟩ | ⟨t, h1, h2⟩
  · exact .inr ⟨t, h1, h2⟩
  · cases t with
    | nil => exact .inr ⟨[], by simpa using h1.symm, by simpa using h2.symm⟩
    | cons x t => simp only [List.cons_append, List.cons.injEq] at h2; obtain ⟨rfl, h2⟩ := h2; exact .inl ⟨t, h1, h2⟩
end Go.Proofs.Ytoglanahjlfihaa.QLst
