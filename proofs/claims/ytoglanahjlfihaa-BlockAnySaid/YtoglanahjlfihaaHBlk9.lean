import Derived.Test.YtoglanahjlfihaaHBlk6
import Derived.Test.YtoglanahjlfihaaHBlk8
namespace Go.Proofs.Ytoglanahjlfihaa.QBlk
open Go.RowKit Go.Proofs.Ytoglanahjlfihaa.MBlk Go.Proofs.YtoglanahjlfihaaW.PrintWords Go.Proofs.YtoglanahjlfihaaW.PrintLast Go.Proofs.YtoglanahjlfihaaW.PrintMore
set_option linter.unusedVariables false
set_option linter.unusedSimpArgs false
/-- Rows into a builder, as long as it goes. -/
def addAll : List S68 → Bool × St → Bool × St
  | [], q => q
  | r :: t, q => addAll t (if q.1 then (addB q.2 r.f0, if addB q.2 r.f0 then addT q.2 r.f0 r.f1 else q.2) else q)
/-- How many places there are, as a block's end says. -/
def cnt (l : List Int) : Nat := val256 ((l.drop (l.length - 4)).take 4)
/-- A block's rows. -/
def rowsOf (l : List Int) : Option (List S68) := rdR (l.length - 4 * (cnt l + 1)) (l.take (l.length - 4 * (cnt l + 1))) ⟨#[]⟩ []
/-- The same bytes? -/
def eqB (a b : List Int) : Bool := (strOfNums a).toList == (strOfNums b).toList
def readS (l : List Int) : Option (List S68) :=
  if l.length < 4 then none else if l.length < 4 * (cnt l + 1) then none else
    if (addAll ((rowsOf l).getD []) ((rowsOf l).isSome, St0)).1 = true ∧ eqB (addAll ((rowsOf l).getD []) ((rowsOf l).isSome, St0)).2.out l = true then some ((rowsOf l).getD []) else none
def Fit (r : S68) : Prop := r.f0.size ≤ 30000 ∧ r.f1.size ≤ 30000
theorem rdN_facts : ∀ (n : Nat) (b : List Int) (L : Nat) (acc : List Int) (xs r : List Int), b.length + L ≤ 30000 → rdN n b L acc = some (xs, r) → (∀ x ∈ acc, 0 ≤ x) → r.length + n ≤ b.length ∧ (∀ x ∈ xs, 0 ≤ x) ∧ xs.length = acc.length + n
  | 0, b, L, acc, xs, r, hl, h, ha => by
    simp only [rdN, Option.some.injEq, Prod.mk.injEq] at h
    obtain ⟨rfl, rfl⟩ := h
    exact ⟨Nat.le_refl _, ha, rfl⟩
  | n + 1, b, L, acc, xs, r, hl, h, ha => by
    rw [rdN] at h
    obtain ⟨⟨x, b2⟩, h1, h2⟩ := Option.bind_eq_some_iff.mp h
    obtain ⟨h3, h4, h5, _⟩ := rd1_facts h1
    obtain ⟨h6, h7, h8⟩ := rdN_facts n b2 L (acc ++ [x]) xs r (by omega) h2 (fun y hy => by
      rcases List.mem_append.1 hy with hy | hy
      · exact ha y hy
      · rw [List.mem_singleton.1 hy]; exact h3)
    rw [List.length_append, List.length_singleton] at h8
    exact ⟨by omega, h7, by omega⟩
theorem strOfNums_size' (l : List Int) : (strOfNums l).size = l.length := by simp [strOfNums, ByteArray.size]
theorem rdR_fit : ∀ (f : Nat) (b : List Int) (last : ByteArray) (acc l : List S68), b.length ≤ f → b.length + last.size ≤ 30000 → acc.length + b.length ≤ 30000 → (∀ r ∈ acc, Fit r) → rdR f b last acc = some l → l.length ≤ 30000 ∧ ∀ r ∈ l, Fit r
  | 0, b, last, acc, l, _, hl, ha, hf, h => by
    rw [rdR] at h
    obtain rfl := Option.some.inj h
    exact ⟨by omega, hf⟩
  | f + 1, b, last, acc, l, hbf, hl, ha, hf, h => by
    rw [rdR] at h
    split at h
    · obtain rfl := Option.some.inj h
      exact ⟨by omega, hf⟩
    · obtain ⟨⟨xs, r⟩, h1, h2⟩ := Option.bind_eq_some_iff.mp h
      obtain ⟨h3, h4, h5⟩ := rdN_facts 3 b last.size [] xs r hl h1 (fun x hx => absurd hx (by simp))
      simp only at h2
      split at h2
      · cases h2
      · split at h2
        · cases h2
        · split at h2
          · cases h2
          · rename_i c0 c1 c2
            have hg : ∀ i, 0 ≤ xs.getD i 0 := by
              intro i
              rw [List.getD_eq_getElem?_getD]
              by_cases hi : i < xs.length
              · rw [List.getElem?_eq_getElem hi]; exact h4 _ (List.getElem_mem hi)
              · rw [List.getElem?_eq_none (by omega)]; exact Int.le_refl _
            have g0 := hg 0
            have g1 := hg 1
            have g2 := hg 2
            generalize xs.getD 0 0 = x0 at *
            generalize xs.getD 1 0 = x1 at *
            generalize xs.getD 2 0 = x2 at *
            have hks : (last.extract 0 x0.toNat ++ strOfNums (r.take x1.toNat)).size = x0.toNat + x1.toNat := by
              rw [ByteArray.size_append, ByteArray.size_extract, strOfNums_size', List.length_take]; omega
            refine rdR_fit f _ _ _ l ?_ ?_ ?_ ?_ h2
            · rw [List.length_drop]; omega
            · rw [List.length_drop, hks]; omega
            · rw [List.length_drop, List.length_append, List.length_singleton]; omega
            · intro q hq
              rcases List.mem_append.1 hq with hq | hq
              · exact hf q hq
              · rw [List.mem_singleton.1 hq]
                refine ⟨by simp only; rw [hks]; omega, ?_⟩
                simp only
                rw [strOfNums_size', List.length_drop, List.length_take]; omega
theorem cnt_lt (l : List Int) (h : Bytes l) : cnt l < 4294967296 := by
  have := val256_lt ((l.drop (l.length - 4)).take 4) ((h.drop _).take _)
  have h2 : ((l.drop (l.length - 4)).take 4).length ≤ 4 := by rw [List.length_take]; omega
  exact Nat.lt_of_lt_of_le this (Nat.le_trans (Nat.pow_le_pow_right (by decide) h2) (by decide))
theorem rowsOf_fit {l : List Int} (hl : l.length ≤ 30000) : ((rowsOf l).getD []).length ≤ 30000 ∧ ∀ r ∈ (rowsOf l).getD [], Fit r := by
  cases h : rowsOf l with
  | none => exact ⟨by simp, fun r hr => absurd hr (by simp)⟩
  | some q => exact rdR_fit _ _ _ _ _ (by rw [List.length_take]; omega) (by rw [List.length_take]; show _ + 0 ≤ _; omega) (by rw [List.length_take]; show 0 + _ ≤ _; omega) (fun r hr => absurd hr (by simp)) h
end Go.Proofs.Ytoglanahjlfihaa.QBlk
