/- Texts as bytes: what varint's GetText comes to. -/
import Derived.Test.YtoglanahjlfihaaMEdtx2
import Derived.Test.YtoglanahjlfihaaQEdtGetV
namespace Go.Proofs.Ytoglanahjlfihaa.QEdt
open Go.RowKit Go.Proofs.Ytoglanahjlfihaa.MEdt Go.Proofs.Ytoglanahjlfihaa.QEdt Go.Proofs.YtoglanahjlfihaaW.PrintWords Go.Proofs.YtoglanahjlfihaaW.PrintLast Go.Proofs.YtoglanahjlfihaaW.PrintMore
set_option linter.unusedVariables false
set_option linter.unusedSimpArgs false
theorem getG_bound (l : List Int) (hl : l.length ≤ 10) (hb : Bytes l) (d : Nat) : ∀ i, l.length - i = d → 0 ≤ (getG l i).1 ∧ (getG l i).1 < 18446744073709551616 ∧ 0 ≤ (getG l i).2 ∧ (getG l i).2 ≤ l.length := by
  induction d with
  | zero => intro i hd; rw [getG_none (by omega)]; simp
  | succ d ih =>
    intro i hd
    have hlt : i < l.length := by omega
    by_cases h1 : l.getD i 0 > 127
    · rw [getG_step hlt h1]; exact ih (i + 1) (by omega)
    · rw [getG, if_pos hlt, if_neg h1]
      split
      · simp
      · rename_i h2
        have hv : val (l.take (i + 1)) < 2 ^ 64 := by
          rw [val_take_succ l i hlt]
          have h3 := val_lt (l.take i)
          rw [List.length_take, Nat.min_eq_left (by omega)] at h3
          have hg := hb.getD i
          rcases Nat.lt_or_ge i 9 with h | h
          · have hp : 128 ^ i ≤ 128 ^ 8 := Nat.pow_le_pow_right (by decide) (by omega)
            have hm : (l.getD i 0 % 128).toNat ≤ 127 := by omega
            have := Nat.mul_le_mul hp hm
            have e : (128 : Nat) ^ 8 * 127 + 128 ^ 8 ≤ 2 ^ 64 := by decide
            omega
          · have hi : i = 9 := by omega
            subst hi
            have hm : (l.getD 9 0 % 128).toNat ≤ 1 := by omega
            have := Nat.mul_le_mul (Nat.le_refl (128 ^ 9)) hm
            have e : (128 : Nat) ^ 9 * 1 + 128 ^ 9 ≤ 2 ^ 64 := by decide
            omega
        refine ⟨by simp only; omega, ?_, by simp only; omega, by simp only; omega⟩
        have e : (2 : Nat) ^ 64 = 18446744073709551616 := by decide
        simp only
        omega

theorem get_bound {l : List Int} (hb : Bytes l) : 0 ≤ (get l).1 ∧ (get l).1 < 18446744073709551616 ∧ 0 ≤ (get l).2 ∧ (get l).2 ≤ l.length := by
  have h := getG_bound (l.take 10) (by rw [List.length_take]; omega) (hb.take 10) _ 0 rfl
  rw [List.length_take] at h
  unfold get
  omega

/-- A text, and where it ends. -/
def getText (l : List Int) : ByteArray × Int :=
  if (get l).2 = 0 then (⟨#[]⟩, 0) else if (get l).1 > (l.length : Int) - (get l).2 then (⟨#[]⟩, 0) else (strOfNums ((l.take ((get l).2 + (get l).1).toNat).drop (get l).2.toNat), (get l).2 + (get l).1)

/-- The one form that both GetText have. -/
def textForm (l : List Int) (g : Int × Int) : Option (ByteArray × Int) :=
  (if g.2 = 0 then (some ((⟨#[]⟩ : ByteArray), 0)) else (if g.1 > (IntKind.u64.wrap (wrap64 ((l.length : Int) - g.2))) then (some ((⟨#[]⟩ : ByteArray), 0)) else (if 0 ≤ g.2 then (if g.2 ≤ (wrap64 (g.2 + (wrap64 (g.1)))) then (if (wrap64 (g.2 + (wrap64 (g.1)))) ≤ (l.length : Int) then (some (strOfNums ((l.take ((wrap64 (g.2 + (wrap64 (g.1)))) : Int).toNat).drop (g.2 : Int).toNat), wrap64 (g.2 + (wrap64 (g.1))))) else (none)) else (none)) else (none))))

theorem textForm_get {l : List Int} (hb : Bytes l) (hl : l.length ≤ 4611686018427387904) : textForm l (get l) = some (getText l) := by
  obtain ⟨h1, h2, h3, h4⟩ := get_bound hb
  unfold textForm getText
  generalize get l = g at *
  obtain ⟨n, k⟩ := g
  simp only at *
  by_cases c1 : k = 0
  · rw [if_pos c1, if_pos c1]
  · rw [if_neg c1, if_neg c1, wrap64_id (n := (l.length : Int) - k) (by omega) (by omega), u64_id (by omega) (by omega)]
    by_cases c2 : n > (l.length : Int) - k
    · rw [if_pos c2, if_pos c2]
    · rw [if_neg c2, if_neg c2, wrap64_id (n := n) (by omega) (by omega), wrap64_id (n := k + n) (by omega) (by omega), if_pos h3, if_pos (by omega), if_pos (by omega)]

theorem GetText_ev {l : List Int} (hb : Bytes l) (hl : l.length ≤ 4611686018427387904) : Ev (fun k => varint_GetText.f k l) (getText l) := by
  unfold varint_GetText.f
  refine Ev.bind (Get_ev hb) (Ev.same ?_)
  exact textForm_get hb hl
end Go.Proofs.Ytoglanahjlfihaa.QEdt
