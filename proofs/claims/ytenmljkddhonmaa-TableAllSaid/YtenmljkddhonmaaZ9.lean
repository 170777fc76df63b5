import Derived.Test.YtenmljkddhonmaaZ5
import Derived.Test.YtenmljkddhonmaaZ8
import Derived.Test.YtenmljkddhonmaaZ1
import Derived.Test.YtenmljkddhonmaaZ7
import Derived.Outline
import Derived.Deep.QuietTactic
import Derived.BigQuiet
import Derived.Deep.LoopGhost
import Derived.BigRegion
import Derived.Deep.RegionLaw
import Derived.Test.YtenmljkddhonmaaZ4
import Derived.Shelf.RegionOpenPlain
import Derived.Sort.WalkB12
import Derived.Sort.EncStr
import Derived.Lib.SliceRun
import Derived.Lib.SlicesS
import Derived.Lib.SlicesCompact
import Derived.Lib.OwnBridge
/- Texts as bytes: what varint's GetText comes to. -/
namespace Go.Proofs.Ytenmljkddhonmaa.QTbl
open Go.RowKit Go.Proofs.Ytenmljkddhonmaa.MTbl Go.Proofs.Ytenmljkddhonmaa.QTbl Go.Proofs.YtenmljkddhonmaaW.PrintWords Go.Proofs.YtenmljkddhonmaaW.PrintLast Go.Proofs.YtenmljkddhonmaaW.PrintMore
set_option linter.unusedVariables false
set_option linter.unusedSimpArgs false
theorem getG_bound (l : List Int) (hl : l.length ≤ 10) (hb : Bytes l) (d : Nat) : ∀ i, l.length - i = d → 0 ≤ (getG l i).1 ∧ (getG l i).1 < 18446744073709551616 ∧ 0 ≤ (getG l i).2 ∧ (getG l i).2 ≤ l.length := by
  induction d with
  | zero => intro i hd; rw [getG_none (by omega)]; simp
  | succ d ih =>
    intro i hd
    have hlt : i < l.length := by omega
    by_cases h1 : l.getD i 0 > 127
    · rw [getG_step hlt h1]; exact ih (i + 1) (by omega)
    · rw [getG, if_pos hlt, if_neg h1]
      split
      · simp
      · rename_i h2
        have hv : val (l.take (i + 1)) < 2 ^ 64 := by
          rw [val_take_succ l i hlt]
          have h3 := val_lt (l.take i)
          rw [List.length_take, Nat.min_eq_left (by omega)] at h3
          have hg := hb.getD i
          rcases Nat.lt_or_ge i 9 with h | h
          · have hp : 128 ^ i ≤ 128 ^ 8 := Nat.pow_le_pow_right (by decide) (by omega)
            have hm : (l.getD i 0 % 128).toNat ≤ 127 := by omega
            have := Nat.mul_le_mul hp hm
            have e : (128 : Nat) ^ 8 * 127 + 128 ^ 8 ≤ 2 ^ 64 := by decide
            omega
          · have hi : i = 9 := by omega
            subst hi
            have hm : (l.getD 9 0 % 128).toNat ≤ 1 := by omega
            have := Nat.mul_le_mul (Nat.le_refl (128 ^ 9)) hm
            have e : (128 : Nat) ^ 9 * 1 + 128 ^ 9 ≤ 2 ^ 64 := by decide
            omega
        refine ⟨by simp only; omega, ?_, by simp only; omega, by simp only; omega⟩
        have e : (2 : Nat) ^ 64 = 18446744073709551616 := by decide
        simp only
        omega

theorem get_bound {l : List Int} (hb : Bytes l) : 0 ≤ (get l).1 ∧ (get l).1 < 18446744073709551616 ∧ 0 ≤ (get l).2 ∧ (get l).2 ≤ l.length := by
  have h := getG_bound (l.take 10) (by rw [List.length_take]; omega) (hb.take 10) _ 0 rfl
  rw [List.length_take] at h
  unfold get
  omega

/-- A text, and where it ends. -/
def getText (l : List Int) : ByteArray × Int :=
  if (get l).2 = 0 then (⟨#[]⟩, 0) else if (get l).1 > (l.length : Int) - (get l).2 then (⟨#[]⟩, 0) else (strOfNums ((l.take ((get l).2 + (get l).1).toNat).drop (get l).2.toNat), (get l).2 + (get l).1)

/-- The one form that both GetText have. -/
def textForm (l : List Int) (g : Int × Int) : Option (ByteArray × Int) :=
  (if g.2 = 0 then (some ((⟨#[]⟩ : ByteArray), 0)) else (if g.1 > (IntKind.u64.wrap (wrap64 ((l.length : Int) - g.2))) then (some ((⟨#[]⟩ : ByteArray), 0)) else (if 0 ≤ g.2 then (if g.2 ≤ (wrap64 (g.2 + (wrap64 (g.1)))) then (if (wrap64 (g.2 + (wrap64 (g.1)))) ≤ (l.length : Int) then (some (strOfNums ((l.take ((wrap64 (g.2 + (wrap64 (g.1)))) : Int).toNat).drop (g.2 : Int).toNat), wrap64 (g.2 + (wrap64 (g.1))))) else (none)) else (none)) else (none))))

theorem textForm_get {l : List Int} (hb : Bytes l) (hl : l.length ≤ 4611686018427387904) : textForm l (get l) = some (getText l) := by
  obtain ⟨h1, h2, h3, h4⟩ := get_bound hb
  unfold textForm getText
  generalize get l = g at *
  obtain ⟨n, k⟩ := g
  simp only at *
  by_cases c1 : k = 0
  · rw [if_pos c1, if_pos c1]
  · rw [if_neg c1, if_neg c1, wrap64_id (n := (l.length : Int) - k) (by omega) (by omega), u64_id (by omega) (by omega)]
    by_cases c2 : n > (l.length : Int) - k
    · rw [if_pos c2, if_pos c2]
    · rw [if_neg c2, if_neg c2, wrap64_id (n := n) (by omega) (by omega), wrap64_id (n := k + n) (by omega) (by omega), if_pos h3, if_pos (by omega), if_pos (by omega)]

theorem GetText_ev {l : List Int} (hb : Bytes l) (hl : l.length ≤ 4611686018427387904) : Ev (fun k => varint_GetText.f k l) (getText l) := by
  unfold varint_GetText.f
  refine Ev.bind (Get_ev hb) (Ev.same ?_)
  exact textForm_get hb hl
end Go.Proofs.Ytenmljkddhonmaa.QTbl

/- A number that was written is read again. -/
namespace Go.Proofs.Ytenmljkddhonmaa.QTbl
open Go.RowKit Go.Proofs.Ytenmljkddhonmaa.MTbl Go.Proofs.Ytenmljkddhonmaa.QTbl Go.Proofs.YtenmljkddhonmaaW.PrintWords Go.Proofs.YtenmljkddhonmaaW.PrintLast Go.Proofs.YtenmljkddhonmaaW.PrintMore
set_option linter.unusedVariables false
set_option linter.unusedSimpArgs false
theorem fixput (n : Nat) (j : Nat) : ∀ n : Nat, n < 128 ^ (j + 1) → val (put n) = n := by
  induction j with
  | zero => intro n h; rw [put_small (by simpa using h)]; simp only [val]; have : n < 128 := by simpa using h
            omega
  | succ j ih =>
    intro n h
    by_cases h1 : n < 128
    · rw [put_small h1]; simp only [val]; omega
    · rw [put_big h1]
      simp only [val]
      rw [ih (n / 128) (by rw [Nat.div_lt_iff_lt_mul (by omega)]; rw [Nat.pow_succ] at h; exact h)]
      omega
theorem val_put {n : Nat} (h : n < 18446744073709551616) : val (put n) = n := fixput n 9 n (Nat.lt_trans h (by decide))

/-- All but the last one go on; the last one doesn't, and is no nought but of nought. -/
theorem put_shape (j : Nat) : ∀ n : Nat, n < 128 ^ (j + 1) → Bytes (put n) ∧ 1 ≤ (put n).length ∧ (∀ i, i + 1 < (put n).length → (put n).getD i 0 > 127) ∧ (put n).getD ((put n).length - 1) 0 ≤ 127 ∧ (1 < (put n).length → (put n).getD ((put n).length - 1) 0 ≠ 0) ∧ ((put n).length = 1 ∨ 128 ^ ((put n).length - 1) * ((put n).getD ((put n).length - 1) 0).toNat ≤ n) := by
  induction j with
  | zero =>
    intro n h
    have h' : n < 128 := by simpa using h
    rw [put_small h']
    exact ⟨by intro c hc; simp at hc; omega, by simp, by intro i hi; simp at hi, by simp; omega, by simp, .inl rfl⟩
  | succ j ih =>
    intro n h
    by_cases h1 : n < 128
    · rw [put_small h1]
      exact ⟨by intro c hc; simp at hc; omega, by simp, by intro i hi; simp at hi, by simp; omega, by simp, .inl rfl⟩
    · obtain ⟨a, b, c, d, e, f⟩ := ih (n / 128) (by rw [Nat.div_lt_iff_lt_mul (by omega)]; rw [Nat.pow_succ] at h; exact h)
      have hn0 : n / 128 ≠ 0 := by omega
      rw [put_big h1]
      generalize hp : put (n / 128) = p at *
      have el : (((n % 128 + 128 : Nat) : Int) :: p).length - 1 = (p.length - 1) + 1 := by simp; omega
      have eg : (((n % 128 + 128 : Nat) : Int) :: p).getD ((((n % 128 + 128 : Nat) : Int) :: p).length - 1) 0 = p.getD (p.length - 1) 0 := by
        rw [el, List.getD_cons_succ]
      have hl1 : p.length = 1 → p.getD (p.length - 1) 0 = ((n / 128 : Nat) : Int) := by
        intro hl
        by_cases h2 : n / 128 < 128
        · rw [← hp, put_small h2]; rfl
        · exfalso
          rw [put_big h2] at hp
          have h3 := (ih (n / 128) (by rw [Nat.div_lt_iff_lt_mul (by omega)]; rw [Nat.pow_succ] at h; exact h)).2.1
          have h4 : 1 ≤ (put (n / 128 / 128)).length := by
            rw [put]; split <;> simp
          rw [← hp] at hl
          simp at hl
          rw [hl] at h4
          simp at h4
      refine ⟨?_, by simp, ?_, by rw [eg]; exact d, ?_, .inr ?_⟩
      · intro x hx
        rcases List.mem_cons.1 hx with rfl | hx
        · omega
        · exact a x hx
      · intro i hi
        cases i with
        | zero => simp; omega
        | succ i => simpa using c i (by simpa using hi)
      · intro _
        rw [eg]
        rcases Nat.lt_or_ge 1 p.length with hl | hl
        · exact e hl
        · rw [hl1 (by omega)]; omega
      · rw [eg, el, Nat.pow_succ]
        rcases f with f | f
        · rw [hl1 f, f]; simp; omega
        · have : 128 ^ (p.length - 1) * 128 * (p.getD (p.length - 1) 0).toNat = 128 ^ (p.length - 1) * (p.getD (p.length - 1) 0).toNat * 128 := by
            rw [Nat.mul_assoc, Nat.mul_comm 128, Nat.mul_assoc]
          omega

theorem getG_go (l : List Int) (m : Nat) (hm : m < l.length) (h : ∀ i, i < m → l.getD i 0 > 127) (d : Nat) : ∀ i, m - i = d → i ≤ m → getG l i = getG l m := by
  induction d with
  | zero => intro i hd hi; rw [show i = m by omega]
  | succ d ih =>
    intro i hd hi
    rw [getG_step (by omega) (h i (by omega))]
    exact ih (i + 1) (by omega) (by omega)

theorem get_put {n : Nat} (h : n < 18446744073709551616) (rest : List Int) : get (put n ++ rest) = ((n : Int), ((put n).length : Int)) := by
  obtain ⟨hb, h1, h2, h3, h4, h5⟩ := put_shape 9 n (Nat.lt_trans h (by decide))
  have h10 := put_length10 h
  have hv := val_put h
  generalize put n = p at *
  have hg : ∀ i, i < p.length → ((p ++ rest).take 10).getD i 0 = p.getD i 0 := by
    intro i hi
    rw [List.getD_eq_getElem?_getD, List.getD_eq_getElem?_getD, List.getElem?_take, if_pos (by omega), List.getElem?_append_left hi]
  have hlen : p.length ≤ ((p ++ rest).take 10).length := by rw [List.length_take, List.length_append]; omega
  unfold get
  rw [getG_go _ (p.length - 1) (by omega) (fun i hi => by rw [hg i (by omega)]; exact h2 i (by omega)) _ 0 rfl (by omega)]
  have hn9 : ¬ (p.length - 1 = 9 ∧ p.getD (p.length - 1) 0 > 1) := by
    rintro ⟨e, hgt⟩
    rcases h5 with h5 | h5
    · omega
    · rw [e] at h5
      have : (128 : Nat) ^ 9 * 2 = 18446744073709551616 := by decide
      have h6 : 2 ≤ (p.getD 9 0).toNat := by rw [e] at hgt; omega
      have := Nat.mul_le_mul (Nat.le_refl (128 ^ 9)) h6
      omega
  have hn0 : ¬ (p.length - 1 > 0 ∧ p.getD (p.length - 1) 0 = 0) := by
    rintro ⟨e, hz⟩
    exact h4 (by omega) hz
  rw [getG, if_pos (by omega), hg _ (by omega), if_neg (by omega), if_neg (fun h => h.elim hn0 hn9), show p.length - 1 + 1 = p.length by omega]
  have et : ((p ++ rest).take 10).take p.length = p := by
    rw [List.take_take, Nat.min_eq_left h10, List.take_left' rfl]
  rw [et, hv]
  congr 1
  omega
theorem put_bytes {n : Nat} (h : n < 18446744073709551616) : Bytes (put n) := (put_shape 9 n (Nat.lt_trans h (by decide))).1
theorem put_pos {n : Nat} (h : n < 18446744073709551616) : 1 ≤ (put n).length := (put_shape 9 n (Nat.lt_trans h (by decide))).2.1
end Go.Proofs.Ytenmljkddhonmaa.QTbl

namespace Go.Proofs.Ytenmljkddhonmaa.MTbl
open Go.RowKit Go.Proofs.Ytenmljkddhonmaa.QTbl Go.Proofs.YtenmljkddhonmaaW.PrintWords Go.Proofs.YtenmljkddhonmaaW.PrintLast Go.Proofs.YtenmljkddhonmaaW.PrintMore
set_option linter.unusedVariables false
set_option linter.unusedSimpArgs false
/-- What stands behind a key. -/
def valS (e : S28) : ByteArray := strOfNums (put e.f3.size ++ bytesOf e.f3) ++ e.f4
def rowOf (e : S28) : S136 := ⟨keyS e, valS e⟩
/-- An entry that may stand in a table, and is small. -/
def okB (e : S28) : Prop := okK e ∧ e.f3.size ≤ 1000 ∧ e.f4.size ≤ 1000
theorem bytesOf_append (a b : ByteArray) : bytesOf (a ++ b) = bytesOf a ++ bytesOf b := by
  unfold bytesOf
  rw [ByteArray.data_append, Array.toList_append, List.map_append]
theorem valS_bytes {e : S28} (h : e.f3.size ≤ 1000) : bytesOf (valS e) = put e.f3.size ++ (bytesOf e.f3 ++ bytesOf e.f4) := by
  unfold valS
  rw [bytesOf_append, bytesOf_nums (Bytes.append (put_bytes (by omega)) (bytesOf_bytes _)), List.append_assoc]
theorem valS_size {e : S28} (h : e.f3.size ≤ 1000) : (valS e).size = (put e.f3.size).length + e.f3.size + e.f4.size := by
  rw [← bytesOf_length, valS_bytes h]; simp only [List.length_append, bytesOf_length]; omega
theorem valS_text {e : S28} (h : okB e) : Ev (fun k => varint_GetText.f k (bytesOf (valS e))) (e.f3, (((put e.f3.size).length + e.f3.size : Nat) : Int)) := by
  have hb := bytesOf_bytes (valS e)
  have := GetText_ev hb (by rw [bytesOf_length, valS_size h.2.1]; have := put_length10 (n := e.f3.size) (by have := h.2.1; omega); have := h.2.1; have := h.2.2; omega)
  have hp := put_pos (n := e.f3.size) (by have := h.2.1; omega)
  rw [show getText (bytesOf (valS e)) = (e.f3, (((put e.f3.size).length + e.f3.size : Nat) : Int)) by
    unfold getText
    rw [valS_bytes h.2.1, get_put (by have := h.2.1; omega)]
    simp only
    rw [if_neg (by omega), if_neg (by simp only [List.length_append, bytesOf_length]; omega)]
    rw [show (((put e.f3.size).length : Int) + (e.f3.size : Int)).toNat = (put e.f3.size).length + e.f3.size by omega, Int.toNat_natCast]
    rw [← List.append_assoc,List.take_append_of_le_length (by simp only [List.length_append,bytesOf_length];omega),List.take_of_length_le (by simp only [List.length_append,bytesOf_length];omega),List.drop_left,nums_bytesOf]
    simp] at this
  exact this
theorem valS_rest {e : S28} (h : okB e) : (valS e).extract ((put e.f3.size).length + e.f3.size) (valS e).size = e.f4 := by
  rw [← nums_bytesOf ((valS e).extract _ _), bytesOf_extract_from, valS_bytes h.2.1, ← List.append_assoc]
  rw [show (put e.f3.size).length + e.f3.size = (put e.f3.size ++ bytesOf e.f3).length by simp [bytesOf_length], List.drop_left, nums_bytesOf]
theorem unkeyE.calls (e : S28) (he : okK e) (w : World) : Calls Try.prog 79 #[.string (keyS e)] w fun r w' => r = .returned (.tuple #[.agg #[.string e.f0,.int .i64 e.f1,.int .i64 e.f2,.string ⟨#[]⟩,.string ⟨#[]⟩],.bool true]) ∧ Below w.heap.size w w' := by
  have hl := keyL_length (e := e)
  have h30 := he.2.2
  have h1 := he.1
  have h2 := he.2.1
  have hN : keyN e < 256 ^ 8 := by unfold keyN; omega
  have := table_unkey.calls (keyS e) (bytesOf e.f0) (keyN e) (1 - e.f2) (bytesOf_bytes _) hN (by omega) (by rw [keyS_size]; omega) (by unfold keyS; rw [bytesOf_nums (keyL_bytes he)]; rfl) w
  rw [nums_bytesOf, show 1 - (1 - e.f2) = e.f2 by omega, show wrap64 (4611686018427387904 - wrap64 (keyN e : Nat)) = e.f1 by
    rw [wrap64_id (n := ((keyN e : Nat) : Int)) (by omega) (by unfold keyN; omega), wrap64_id (by unfold keyN; omega) (by unfold keyN; omega)]; unfold keyN; omega] at this
  exact this
end Go.Proofs.Ytenmljkddhonmaa.MTbl

namespace Go.Proofs.Ytenmljkddhonmaa.QTbl
open Go.RowKit Go.Proofs.Ytenmljkddhonmaa.MTbl Go.Proofs.YtenmljkddhonmaaW.PrintWords Go.Proofs.YtenmljkddhonmaaW.PrintLast Go.Proofs.YtenmljkddhonmaaW.PrintMore
set_option linter.unusedVariables false
set_option linter.unusedSimpArgs false
theorem getG_facts (l : List Int) (d : Nat) : ∀ i : Nat, l.length - i = d → 0 ≤ (getG l i).1 ∧ 0 ≤ (getG l i).2 ∧ (getG l i).2 ≤ l.length := by
  induction d with
  | zero => intro i h; rw [getG, if_neg (by omega)]; exact ⟨Int.le_refl _, Int.le_refl _, by simp⟩
  | succ d ih =>
    intro i h
    rw [getG, if_pos (by omega)]
    split
    · exact ih (i + 1) (by omega)
    · split
      · exact ⟨Int.le_refl _, Int.le_refl _, by simp⟩
      · refine ⟨by simp only; omega, by simp only; omega, by simp only; omega⟩
theorem get_facts (l : List Int) : 0 ≤ (get l).1 ∧ 0 ≤ (get l).2 ∧ (get l).2 ≤ l.length := by
  obtain ⟨h1, h2, h3⟩ := getG_facts (l.take 10) _ 0 rfl
  refine ⟨h1, h2, Int.le_trans h3 ?_⟩
  rw [List.length_take]; omega
/-- One number of a row, in a bound. -/
def rd1 (b : List Int) (L : Nat) : Option (Int × List Int) := if (get b).2 = 0 then none else if (get b).1 > (b.length : Int) + L then none else some ((get b).1, b.drop (get b).2.toNat)
/-- So many numbers. -/
def rdN : Nat → List Int → Nat → List Int → Option (List Int × List Int)
  | 0, b, _, acc => some (acc, b)
  | n + 1, b, L, acc => (rd1 b L).bind fun q => rdN n q.2 L (acc ++ [q.1])
/-- Rows, whatever stands behind them. -/
def rdR : Nat → List Int → ByteArray → List S136 → Option (List S136)
  | 0, _, _, acc => some acc
  | f + 1, b, last, acc => if b = [] then some acc else (rdN 3 b last.size []).bind fun q =>
    if q.1.getD 0 0 > last.size then none else if q.1.getD 1 0 > q.2.length then none else if q.1.getD 2 0 > (q.2.length : Int) - q.1.getD 1 0 then none else
      rdR f (q.2.drop ((q.1.getD 1 0).toNat + (q.1.getD 2 0).toNat)) (last.extract 0 (q.1.getD 0 0).toNat ++ strOfNums (q.2.take (q.1.getD 1 0).toNat)) (acc ++ [⟨last.extract 0 (q.1.getD 0 0).toNat ++ strOfNums (q.2.take (q.1.getD 1 0).toNat),strOfNums ((q.2.take ((q.1.getD 1 0).toNat + (q.1.getD 2 0).toNat)).drop (q.1.getD 1 0).toNat)⟩])
theorem rd1_facts {b : List Int} {L : Nat} {x : Int} {r : List Int} (h : rd1 b L = some (x, r)) : 0 ≤ x ∧ x ≤ (b.length : Int) + L ∧ r.length < b.length ∧ ∃ m : Nat, m ≤ b.length ∧ r = b.drop m := by
  unfold rd1 at h
  split at h
  · cases h
  · split at h
    · cases h
    · rename_i h1 h2
      simp only [Option.some.injEq, Prod.mk.injEq] at h
      obtain ⟨rfl, rfl⟩ := h
      obtain ⟨h3, h4, h5⟩ := get_facts b
      refine ⟨h3, by omega, by rw [List.length_drop]; omega, _, by omega, rfl⟩
end Go.Proofs.Ytenmljkddhonmaa.QTbl

namespace Go.Proofs.Ytenmljkddhonmaa.QTbl
open Go.RowKit Go.Proofs.Ytenmljkddhonmaa.MTbl Go.Proofs.YtenmljkddhonmaaW.PrintWords Go.Proofs.YtenmljkddhonmaaW.PrintLast Go.Proofs.YtenmljkddhonmaaW.PrintMore
set_option linter.unusedVariables false
set_option linter.unusedSimpArgs false
/-- Rows into a builder, as long as it goes. -/
def addAll : List S136 → Bool × St → Bool × St
  | [], q => q
  | r :: t, q => addAll t (if q.1 then (addB q.2 r.f0, if addB q.2 r.f0 then addT q.2 r.f0 r.f1 else q.2) else q)
/-- How many places there are, as a block's end says. -/
def cnt (l : List Int) : Nat := val256 ((l.drop (l.length - 4)).take 4)
/-- A block's rows. -/
def rowsOf (l : List Int) : Option (List S136) := rdR (l.length - 4 * (cnt l + 1)) (l.take (l.length - 4 * (cnt l + 1))) ⟨#[]⟩ []
/-- The same bytes? -/
def eqB (a b : List Int) : Bool := (strOfNums a).toList == (strOfNums b).toList
def readS (l : List Int) : Option (List S136) :=
  if l.length < 4 then none else if l.length < 4 * (cnt l + 1) then none else
    if (addAll ((rowsOf l).getD []) ((rowsOf l).isSome, St0)).1 = true ∧ eqB (addAll ((rowsOf l).getD []) ((rowsOf l).isSome, St0)).2.out l = true then some ((rowsOf l).getD []) else none
def Fit (r : S136) : Prop := r.f0.size ≤ 30000 ∧ r.f1.size ≤ 30000
theorem rdN_facts : ∀ (n : Nat) (b : List Int) (L : Nat) (acc : List Int) (xs r : List Int),b.length + L ≤ 30000 → rdN n b L acc = some (xs,r) → (∀ x ∈ acc,0 ≤ x) → r.length + n ≤ b.length ∧ (∀ x ∈ xs,0 ≤ x) ∧ xs.length = acc.length + n
  | 0, b, L, acc, xs, r, hl, h, ha => by
    simp only [rdN, Option.some.injEq, Prod.mk.injEq] at h
    obtain ⟨rfl, rfl⟩ := h
    exact ⟨Nat.le_refl _, ha, rfl⟩
  | n + 1, b, L, acc, xs, r, hl, h, ha => by
    rw [rdN] at h
    obtain ⟨⟨x, b2⟩, h1, h2⟩ := Option.bind_eq_some_iff.mp h
    obtain ⟨h3, h4, h5, _⟩ := rd1_facts h1
    obtain ⟨h6, h7, h8⟩ := rdN_facts n b2 L (acc ++ [x]) xs r (by omega) h2 (fun y hy => by
      rcases List.mem_append.1 hy with hy | hy
      · exact ha y hy
      · rw [List.mem_singleton.1 hy]; exact h3)
    rw [List.length_append, List.length_singleton] at h8
    exact ⟨by omega, h7, by omega⟩
theorem strOfNums_size' (l : List Int) : (strOfNums l).size = l.length := by simp [strOfNums, ByteArray.size]
theorem rdR_fit : ∀ (f : Nat) (b : List Int) (last : ByteArray) (acc l : List S136),b.length ≤ f → b.length + last.size ≤ 30000 → acc.length + b.length ≤ 30000 → (∀ r ∈ acc,Fit r) → rdR f b last acc = some l → l.length ≤ 30000 ∧ ∀ r ∈ l,Fit r
  | 0, b, last, acc, l, _, hl, ha, hf, h => by
    rw [rdR] at h
    obtain rfl := Option.some.inj h
    exact ⟨by omega, hf⟩
  | f + 1, b, last, acc, l, hbf, hl, ha, hf, h => by
    rw [rdR] at h
    split at h
    · obtain rfl := Option.some.inj h
      exact ⟨by omega, hf⟩
    · obtain ⟨⟨xs, r⟩, h1, h2⟩ := Option.bind_eq_some_iff.mp h
      obtain ⟨h3, h4, h5⟩ := rdN_facts 3 b last.size [] xs r hl h1 (fun x hx => absurd hx (by simp))
      simp only at h2
      split at h2
      · cases h2
      · split at h2
        · cases h2
        · split at h2
          · cases h2
          · rename_i c0 c1 c2
            have hg : ∀ i, 0 ≤ xs.getD i 0 := by
              intro i
              rw [List.getD_eq_getElem?_getD]
              by_cases hi : i < xs.length
              · rw [List.getElem?_eq_getElem hi]; exact h4 _ (List.getElem_mem hi)
              · rw [List.getElem?_eq_none (by omega)]; exact Int.le_refl _
            have g0 := hg 0
            have g1 := hg 1
            have g2 := hg 2
            generalize xs.getD 0 0 = x0 at *
            generalize xs.getD 1 0 = x1 at *
            generalize xs.getD 2 0 = x2 at *
            have hks : (last.extract 0 x0.toNat ++ strOfNums (r.take x1.toNat)).size = x0.toNat + x1.toNat := by
              rw [ByteArray.size_append, ByteArray.size_extract, strOfNums_size', List.length_take]; omega
            refine rdR_fit f _ _ _ l ?_ ?_ ?_ ?_ h2
            · rw [List.length_drop]; omega
            · rw [List.length_drop, hks]; omega
            · rw [List.length_drop, List.length_append, List.length_singleton]; omega
            · intro q hq
              rcases List.mem_append.1 hq with hq | hq
              · exact hf q hq
              · rw [List.mem_singleton.1 hq]
                refine ⟨by simp only; rw [hks]; omega, ?_⟩
                simp only
                rw [strOfNums_size', List.length_drop, List.length_take]; omega
theorem cnt_lt (l : List Int) (h : Bytes l) : cnt l < 4294967296 := by
  have := val256_lt ((l.drop (l.length - 4)).take 4) ((h.drop _).take _)
  have h2 : ((l.drop (l.length - 4)).take 4).length ≤ 4 := by rw [List.length_take]; omega
  exact Nat.lt_of_lt_of_le this (Nat.le_trans (Nat.pow_le_pow_right (by decide) h2) (by decide))
theorem rowsOf_fit {l : List Int} (hl : l.length ≤ 30000) : ((rowsOf l).getD []).length ≤ 30000 ∧ ∀ r ∈ (rowsOf l).getD [], Fit r := by
  cases h : rowsOf l with
  | none => exact ⟨by simp, fun r hr => absurd hr (by simp)⟩
  | some q => exact rdR_fit _ _ _ _ _ (by rw [List.length_take];omega) (by rw [List.length_take];show _ + 0 ≤ _;omega) (by rw [List.length_take];show 0 + _ ≤ _;omega) (fun r hr => absurd hr (by simp)) h
end Go.Proofs.Ytenmljkddhonmaa.QTbl

namespace Go.Proofs.Ytenmljkddhonmaa.MTbl
open Go.RowKit Go.Proofs.Ytenmljkddhonmaa.QTbl Go.Proofs.YtenmljkddhonmaaW.PrintWords Go.Proofs.YtenmljkddhonmaaW.PrintLast Go.Proofs.YtenmljkddhonmaaW.PrintMore
set_option linter.unusedVariables false
set_option linter.unusedSimpArgs false
theorem info136 : (Try.prog.info? 136).map (fun i => (i.zero, i.size, i.bytes)) = some (some (.agg #[.string ⟨#[]⟩, .string ⟨#[]⟩]), 2, 32) := by kernel_rfl
theorem C_dropA {w : World} {A : Option Addr} {c m : Nat} {xs : List Int} (h : Kd.C (Kd.int .u8) w A xs.length xs) (hm : m ≤ xs.length) (hc : xs.length ≤ c) : ∃ A',(∀ W : World,(Instr.slice 43 (.slice A xs.length c) (some (.int .i64 (m : Int))) none none).run Try.prog W = .ok (.slice A' (xs.drop m).length (c - m)) W) ∧ Kd.C (Kd.int .u8) w A' (xs.drop m).length (xs.drop m) ∧ (xs.drop m).length ≤ c - m := by
  obtain ⟨i0, hi0, _, hsz, _⟩ := info_parts info5
  refine ⟨_, fun W => ?_, Kd.C_drop h hm hc, by rw [List.length_drop]; omega⟩
  have := cut_from (P := Try.prog) 43 5 .i64 Try.underlying43 hi0 1 hsz A xs.length c (m : Int) (by omega) (by omega) W
  rw [List.length_drop]
  exact this
theorem C_takeA {w : World} {A : Option Addr} {c m : Nat} {xs : List Int} (h : Kd.C (Kd.int .u8) w A xs.length xs) (hm : m ≤ xs.length) (hc : xs.length ≤ c) : (∀ W : World,(Instr.slice 43 (.slice A xs.length c) none (some (.int .u64 (m : Int))) none).run Try.prog W = .ok (.slice A m c) W) ∧ Kd.C (Kd.int .u8) w A m (xs.take m) := by
  obtain ⟨i0, hi0, _, hsz, _⟩ := info_parts info5
  refine ⟨cut_to (P := Try.prog) 43 5 .u64 Try.underlying43 hi0 A xs.length c (m : Int) (by omega) (by omega) hc, ?_⟩
  have := Kd.C_take h hm
  rwa [List.length_take, Nat.min_eq_left hm] at this
theorem C_midA {w : World} {A : Option Addr} {c a b : Nat} {xs : List Int} (h : Kd.C (Kd.int .u8) w A xs.length xs) (hm : a + b ≤ xs.length) (hc : xs.length ≤ c) : ∃ A',(∀ W : World,(Instr.slice 43 (.slice A xs.length c) (some (.int .u64 (a : Int))) (some (.int .u64 ((a : Int) + b))) none).run Try.prog W = .ok (.slice A' b (c - a)) W) ∧ Kd.C (Kd.int .u8) w A' b ((xs.take (a + b)).drop a) := by
  obtain ⟨i0, hi0, _, hsz, _⟩ := info_parts info5
  refine ⟨if c = a then A else A.map (·.add (a * 1)), fun W => ?_, ?_⟩
  · have := cut_mid (P := Try.prog) 43 5 .u64 .u64 Try.underlying43 hi0 1 hsz A xs.length c (a : Int) ((a : Int) + b) (by omega) (by omega) (by omega) hc W
    rw [show (((a : Int) + b).toNat - (a : Int).toNat) = b by omega] at this
    exact this
  · have := Kd.C_mid (lo := a) (hi := a + b) h (by omega) hm hc
    rwa [show ((xs.take (a + b)).drop a).length = b by rw [List.length_drop, List.length_take]; omega] at this
theorem C_dropB {w : World} {A : Option Addr} {c a b : Nat} {xs : List Int} (h : Kd.C (Kd.int .u8) w A xs.length xs) (hm : a + b ≤ xs.length) (hc : xs.length ≤ c) : ∃ A',(∀ W : World,(Instr.slice 43 (.slice A xs.length c) (some (.int .u64 ((a : Int) + b))) none none).run Try.prog W = .ok (.slice A' (xs.drop (a + b)).length (c - (a + b))) W) ∧ Kd.C (Kd.int .u8) w A' (xs.drop (a + b)).length (xs.drop (a + b)) ∧ (xs.drop (a + b)).length ≤ c - (a + b) := by
  obtain ⟨i0, hi0, _, hsz, _⟩ := info_parts info5
  refine ⟨_, fun W => ?_, Kd.C_drop h hm hc, by rw [List.length_drop]; omega⟩
  have := cut_from (P := Try.prog) 43 5 .u64 Try.underlying43 hi0 1 hsz A xs.length c ((a : Int) + b) (by omega) (by omega) W
  rw [show ((a : Int) + b).toNat = a + b by omega] at this
  rw [List.length_drop]
  exact this
theorem strOfNums_size (l : List Int) : (strOfNums l).size = l.length := by simp [strOfNums, ByteArray.size]
theorem set_arr {xs : List Int} {j k1 : Nat} {x : Int} (h : xs.length = j) : (((xs ++ List.replicate (k1 + 1) 0).map (Value.int .u64)).toArray).setIfInBounds j (Value.int .u64 x) = (((xs ++ [x]) ++ List.replicate k1 0).map (Value.int .u64)).toArray := by
  subst h
  rw [List.setIfInBounds_toArray]
  congr 1
  rw [List.map_append, List.map_append, List.map_append, List.replicate_succ, List.map_cons, List.set_append_right _ _ (by simp)]
  simp
def ReadPost (w w' : World) (e : Ending) (res : Option (List S136)) : Prop := ∃ v ok,e = .returned (.tuple #[v,.bool ok]) ∧ Below w.heap.size w w' ∧ (match res with | none => v = .slice none 0 0 ∧ ok = false | some l => ok = true ∧ Kd.R k136 136 w' w.heap.size (fun _ => True) v l)
set_option maxHeartbeats 8000000 in
set_option maxRecDepth 100000 in
theorem block_read.calls (A0 : Option Addr) (c0 : Nat) (l0 : List Int) (w : World) (hr0 : Kd.C (Kd.int .u8) w A0 l0.length l0) (hc0 : l0.length ≤ c0) (hby : Bytes l0) (hl : l0.length ≤ 30000) (res : Option (List S136)) (h : rdR l0.length l0 ⟨#[]⟩ [] = res) :
    Calls Try.prog 85 #[.slice A0 l0.length c0] w fun e w' => ReadPost w w' e res := by
  have HR := Aside0.mk hr0
  have HH := Aside0.mk h
  have HBY := Aside0.mk hby
  clear hr0 h hby
  go_enter Try.func85, Try.ntmps85
  go_wp2_with (fail)
  go_loopg [0,4,5] l0.length (fun kx s0 s4 s5 wr => ∃ (b : List Int) (A : Option Addr) (c : Nat) (last : ByteArray) (acc : List S136) (A4 : Option Addr) (c4 : Nat),s0 = .slice A b.length c ∧ s4 = .slice A4 acc.length c4 ∧ s5 = .string last ∧ b.length ≤ kx ∧ b.length + last.size ≤ 30000 ∧ acc.length + b.length ≤ 30000 ∧ b.length ≤ c ∧ Aside0 (Bytes b) ∧ Aside0 (Kd.C (Kd.int .u8) w A b.length b) ∧ Aside0 (rdR kx b last acc = res) ∧ Aside0 (Kd.R k136 136 wr w.heap.size (fun _ => True) (.slice A4 acc.length c4) acc) ∧ Aside0 (Below w.heap.size w wr))
  case atStart => exact ⟨l0,A0,c0,⟨#[]⟩,[],none,0,rfl,rfl,rfl,Nat.le_refl _,(by show l0.length + 0 ≤ 30000;omega),(by show 0 + l0.length ≤ 30000;omega),hc0,HBY,HR,HH,⟨Kd.R_nil _ _ _ _ _⟩,⟨Below.refl _ _⟩⟩
  case round =>
    (try clear HH)
    (try clear HR)
    (try clear HBY)
    obtain ⟨b, A, c, last, acc, A4, c4, rfl, rfl, rfl, hk, hbl, hal, hbc, HBY, HC, HX, HO, HB⟩ := hrel
    by_cases hb : b = []
    · subst hb
      have hb0 : (0 < ([] : List Int).length) = False := eq_false (by simp)
      have hres : res = some acc := by
        have h_ := HX.out
        cases gk with
        | zero => exact h_.symm
        | succ kk => rw [rdR, if_pos rfl] at h_; exact h_.symm
      clear HX
      subst hres
      go_wp2_with (fail)
      go_ret2
      exact ⟨_, _, rfl, HB.out, rfl, HO.out⟩
    · cases gk with
      | zero => exact absurd (List.eq_nil_of_length_eq_zero (by omega)) hb
      | succ kk =>
        have hb0 : (0 < b.length) = True := eq_true (by cases b with | nil => exact absurd rfl hb | cons _ _ => simp)
        rw [rdR, if_neg hb] at HX
        go_wp2_with (fail)
        obtain ⟨gN, hgN⟩ : ∃ gN, Aside0 (gN = wr.heap.size) := ⟨_, ⟨rfl⟩⟩
        have HN : Aside0 ((wr.alloc (.cells #[.int .u64 0,.int .u64 0,.int .u64 0] 148)).heap[gN]? = some (.cells ((([] : List Int) ++ List.replicate 3 0).map (Value.int .u64)).toArray 148 (0,0))) := ⟨alloc_new_ _ _ _ hgN.out⟩
        have HO1 : Aside0 (Kd.R k136 136 (wr.alloc (.cells #[.int .u64 0, .int .u64 0, .int .u64 0] 148)) w.heap.size (fun _ => True) (.slice A4 acc.length c4) acc) := ⟨Kd.R_alloc HO.out _⟩
        have HB1 : Aside0 (Below w.heap.size w (wr.alloc (.cells #[.int .u64 0, .int .u64 0, .int .u64 0] 148))) := ⟨below_alloc HB.out _⟩
        have hgw : w.heap.size ≤ gN := by rw [hgN.out]; exact HB.out.size
        rw [← hgN.out]
        clear hb0 hgN HO HB
        go_loopg [0,13] 3 (fun kx s0 s13 wq => ∃ (j : Nat) (xs bj : List Int) (Aj : Option Addr) (cj : Nat),s0 = .slice Aj bj.length cj ∧ s13 = .int .i64 j ∧ j + kx = 3 ∧ xs.length = j ∧ bj.length ≤ cj ∧ bj.length ≤ b.length ∧ (j = 0 ∨ bj.length < b.length) ∧ (∀ x ∈ xs,0 ≤ x ∧ x ≤ 30000) ∧ Aside0 (rdN kx bj last.size xs = rdN 3 b last.size []) ∧ Aside0 (Bytes bj) ∧ Aside0 (Kd.C (Kd.int .u8) w Aj bj.length bj) ∧ Aside0 (wq.heap[gN]? = some (.cells ((xs ++ List.replicate kx 0).map (Value.int .u64)).toArray 148 (0,0))) ∧ Aside0 (Kd.R k136 136 wq w.heap.size (fun _ => True) (.slice A4 acc.length c4) acc) ∧ Aside0 (Below w.heap.size w wq))
        case atStart => exact ⟨0, [], b, A, c, rfl, rfl, rfl, rfl, hbc, Nat.le_refl _, .inl rfl, (fun x hx => absurd hx (by simp)), ⟨rfl⟩, HBY, HC, HN, HO1, HB1⟩
        case round =>
          clear HBY HC HN HO1 HB1
          obtain ⟨j, xs, bj, Aj, cj, rfl, rfl, hjk, hxl, hbcj, hbjl, hj0, hxs, HRN, HBY, HC, HN, HO, HB⟩ := hrel
          cases gk with
          | zero =>
            have hjt : ((j : Int) < 3) = False := eq_false (by omega)
            obtain ⟨x0, x1, x2, rfl⟩ : ∃ x0 x1 x2, xs = [x0, x1, x2] := by
              match xs, hxl with
              | [a, b, c], _ => exact ⟨a, b, c, rfl⟩
              | [], h => simp at h; omega
              | [_], h => simp at h; omega
              | [_, _], h => simp at h; omega
              | _ :: _ :: _ :: _ :: _, h => simp at h; omega
            have hR := HRN.out
            rw [rdN] at hR
            have hX := HX.out
            rw [← hR] at hX
            simp only [Option.bind_some, List.getD_cons_zero, List.getD_cons_succ] at hX
            have HX := Aside0.mk hX
            clear hR hX HRN
            obtain ⟨hx0, hx0'⟩ := hxs x0 (by simp)
            obtain ⟨hx1, hx1'⟩ := hxs x1 (by simp)
            obtain ⟨hx2, hx2'⟩ := hxs x2 (by simp)
            have hn0 : wr.cell? ⟨gN, 0, none⟩ = some (.int .u64 x0) := (blk_cell HN.out 0).trans rfl
            have hn1 : wr.cell? ⟨gN, 1, none⟩ = some (.int .u64 x1) := (blk_cell HN.out 1).trans rfl
            have hn2 : wr.cell? ⟨gN, 2, none⟩ = some (.int .u64 x2) := (blk_cell HN.out 2).trans rfl
            have hwl : IntKind.u64.wrap (last.size : Int) = last.size := u64_id (by omega) (by omega)
            have hwb : IntKind.u64.wrap (bj.length : Int) = bj.length := u64_id (by omega) (by omega)
            clear hxs hxl
            by_cases c0 : x0 > last.size
            · have c0b : ((last.size : Int) < x0) = True := eq_true c0
              have hres : res = none := by have h_ := HX.out; rw [if_pos c0] at h_; exact h_.symm
              subst hres
              clear HX
              go_wp2_with (fail)
              go_ret2
              exact ⟨_, _, rfl, HB.out, rfl, rfl⟩
            · have c0b : ((last.size : Int) < x0) = False := eq_false c0
              by_cases c1 : x1 > bj.length
              · have c1b : ((bj.length : Int) < x1) = True := eq_true c1
                have hres : res = none := by have h_ := HX.out; rw [if_neg c0, if_pos c1] at h_; exact h_.symm
                subst hres
                clear HX
                go_wp2_with (fail)
                go_ret2
                exact ⟨_, _, rfl, HB.out, rfl, rfl⟩
              · have c1b : ((bj.length : Int) < x1) = False := eq_false c1
                have hws : IntKind.u64.wrap ((bj.length : Int) - x1) = (bj.length : Int) - x1 := u64_id (by omega) (by omega)
                by_cases c2 : x2 > (bj.length : Int) - x1
                · have c2b : ((bj.length : Int) - x1 < x2) = True := eq_true c2
                  have hres : res = none := by have h_ := HX.out; rw [if_neg c0, if_neg c1, if_pos c2] at h_; exact h_.symm
                  subst hres
                  clear HX
                  go_wp2_with (fail)
                  go_ret2
                  exact ⟨_, _, rfl, HB.out, rfl, rfl⟩
                · have c2b : ((bj.length : Int) - x1 < x2) = False := eq_false c2
                  obtain ⟨n0, rfl⟩ := Int.eq_ofNat_of_zero_le hx0
                  obtain ⟨n1, rfl⟩ := Int.eq_ofNat_of_zero_le hx1
                  obtain ⟨n2, rfl⟩ := Int.eq_ofNat_of_zero_le hx2
                  have HX2 : Aside0 _ := ⟨by have h_ := HX.out; rw [if_neg c0, if_neg c1, if_neg c2] at h_; simp only [Int.toNat_natCast] at h_; exact h_⟩
                  clear HX
                  have hCr := Kd.C_below HC.out HB.out
                  have hm12 : n1 + n2 ≤ bj.length := by omega
                  obtain ⟨hsl1, hC1⟩ := C_takeA hCr (show n1 ≤ bj.length by omega) hbcj
                  obtain ⟨A2, hsl2, hC2⟩ := C_midA hCr hm12 hbcj
                  obtain ⟨A3, hsl3, hC3, hle3⟩ := C_dropB HC.out hm12 hbcj
                  obtain ⟨k0, hk0⟩ : ∃ k0, Aside0 (k0 = last.extract 0 n0) := ⟨_, ⟨rfl⟩⟩
                  obtain ⟨k1, hk1⟩ : ∃ k1, Aside0 (k1 = strOfNums (bj.take n1)) := ⟨_, ⟨rfl⟩⟩
                  obtain ⟨v1, hv1⟩ : ∃ v1, Aside0 (v1 = strOfNums ((bj.take (n1 + n2)).drop n1)) := ⟨_, ⟨rfl⟩⟩
                  have hcv0 : ∀ W,(Instr.slice 9 (.string last) none (some (.int .u64 (n0 : Int))) none).run Try.prog W = .ok (.string k0) W := fun W => by rw [hk0.out];simpa using run_slice_string_h W 9 last Try.underlying9 .u64 (n0 : Int) (by omega) (by omega)
                  have hcv1 : (convert 43 9 (.slice Aj n1 cj)).run Try.prog wr.drew = .ok (.string k1) wr.drew := by rw [hk1.out];exact Kd.C_string Try.underlying43 Try.underlying5 Try.underlying9 (Kd.C_drew hC1)
                  have hcv2 : (convert 43 9 (.slice A2 n2 (cj - n1))).run Try.prog wr.drew = .ok (.string v1) wr.drew := by rw [hv1.out];exact Kd.C_string Try.underlying43 Try.underlying5 Try.underlying9 (Kd.C_drew hC2)
                  have hw12 : IntKind.u64.wrap ((n1 : Int) + n2) = (n1 : Int) + n2 := u64_id (by omega) (by omega)
                  have hks : k0.size + k1.size ≤ 60000 := by rw [hk0.out, hk1.out, ByteArray.size_extract, strOfNums_size, List.length_take]; omega
                  have hks2 : Aside0 (k0.size = n0 ∧ k1.size = n1) := ⟨by rw [hk0.out, hk1.out, ByteArray.size_extract, strOfNums_size, List.length_take]; omega⟩
                  have hsum : (9223372036854775807 < k0.size + k1.size) = False := eq_false (by omega)
                  rw [← hk0.out, ← hk1.out, ← hv1.out] at HX2
                  clear hks
                  have HC3 := Aside0.mk hC3
                  clear hCr hC1 hC2 hC3
                  go_wp2_with (fail)
                  go_region
                  go_wp2_with (first | ((with_reducible refine gate_builtin (b := .append) (xs := #[.tmp 75,.tmp 88]) rfl ?_);at_builtin;refine Kd.R_append k136 (w0 := w) (W := wr.drew) w.heap.size rfl (.tmp 75) (.tmp 88) 132 136 (.agg #[.string ⟨#[]⟩,.string ⟨#[]⟩]) 32 rfl Try.underlying132 info136 rfl (by decide) (by omega) (.slice A4 acc.length c4) acc ⟨k0 ++ k1,v1⟩ [.string (k0 ++ k1),.string v1] (fun _ => True) (fun _ => False) rfl rfl ?aP (fun k hk => hk.elim) ?aF ?aO ?aB ?aS ?aL ?_;(case aP => exact k136_mkM _ _ _ _);(case aF => exact (fun _ _ => trivial));(case aO => exact Kd.R_drew HO.out);(case aB => exact below_drew1 HB.out);(case aS => exact below_size (below_drew1 HB.out));(case aL => omega);intro v3 w3 ho hb3 hg3 hat3;obtain ⟨A5,c5,e5⟩ := Kd.R_slice ho;subst e5;have HO3 := Aside0.mk ho;have HB3 := Aside0.mk hb3;have HN3 := Aside0.mk ((hg3.block gN (blk_lt HN.out) (Kd.R_ne (Kd.R_drew HO.out) (blk_drew HN.out) (by decide))).trans (blk_drew HN.out));have hn13 : w3.cell? ⟨gN,1,none⟩ = some (.int .u64 n1) := (blk_cell HN3.out 1).trans rfl;have hn23 : w3.cell? ⟨gN,2,none⟩ = some (.int .u64 n2) := (blk_cell HN3.out 2).trans rfl;clear ho hb3 hg3 hat3))
                  go_roundg kk
                  case measure => omega
                  case rel => exact ⟨bj.drop (n1 + n2),A3,cj - (n1 + n2),k0 ++ k1,acc ++ [⟨k0 ++ k1,v1⟩],A5,c5,by rw [List.length_drop],by rw [List.length_append,List.length_singleton],rfl,by rw [List.length_drop];omega,by rw [List.length_drop,ByteArray.size_append];have := hks2.out;omega,by rw [List.length_drop,List.length_append,List.length_singleton];omega,hle3,⟨HBY.out.drop _⟩,HC3,HX2,HO3,HB3⟩
          | succ k1 =>
            have hjt : ((j : Int) < 3) = True := eq_true (by omega)
            obtain ⟨K, hK⟩ := Get_ev HBY.out
            obtain ⟨x, n, hg⟩ : ∃ x n, get bj = (x, n) := ⟨_, _, rfl⟩
            have hgf := get_facts bj
            rw [hg] at hgf
            obtain ⟨hx0, hn0, hn1⟩ := hgf
            simp only at hx0 hn0 hn1
            have HK := Aside0.mk (hK K (Nat.le_refl _))
            rw [hg] at HK
            have Hg := Aside0.mk hg
            clear hK hg
            go_wp2_with (fail)
            refine (varint_Get.calls K Aj cj bj x n _ (Kd.C_below HC.out HB.out) hbcj HK.out).mono ?_
            rintro e w2 ⟨rfl, hb2⟩
            have HB2 := Aside0.mk (below_step HB.out hb2)
            have HO2 := Aside0.mk (Kd.R_below HO.out hb2)
            have HN2 := Aside0.mk ((hb2.block gN (blk_lt HN.out)).trans HN.out)
            clear hb2 HB HO HN HK
            by_cases c0 : n = 0
            · subst c0
              have hres : res = none := by
                have h_ := HX.out
                rw [← HRN.out, rdN] at h_
                simp only [rd1, Hg.out, if_pos, Option.bind_none] at h_
                exact h_.symm
              subst hres
              clear HX HRN
              go_wp2_with (fail)
              go_ret2
              exact ⟨_, _, rfl, HB2.out, rfl, rfl⟩
            · have c0b : (n == 0) = false := beq_eq_false_iff_ne.mpr c0
              have hw1 : IntKind.i64.wrap ((bj.length : Int) + last.size) = (bj.length : Int) + last.size := (i64_w _).trans (by unfold wrap64; omega)
              have hw2 : IntKind.u64.wrap ((bj.length : Int) + last.size) = (bj.length : Int) + last.size := u64_id (by omega) (by omega)
              by_cases c1 : x > (bj.length : Int) + last.size
              · have c1b : ((bj.length : Int) + last.size < x) = True := eq_true c1
                have hres : res = none := by
                  have h_ := HX.out
                  rw [← HRN.out, rdN] at h_
                  simp only [rd1, Hg.out, if_neg c0, if_pos c1, Option.bind_none] at h_
                  exact h_.symm
                subst hres
                clear HX HRN
                go_wp2_with (fail)
                go_ret2
                exact ⟨_, _, rfl, HB2.out, rfl, rfl⟩
              · have c1b : ((bj.length : Int) + last.size < x) = False := eq_false c1
                obtain ⟨m, rfl⟩ := Int.eq_ofNat_of_zero_le hn0
                have hm : m ≤ bj.length := by omega
                have hm0 : 0 < m := by omega
                have HRN2 : Aside0 (rdN k1 (bj.drop m) last.size (xs ++ [x]) = rdN 3 b last.size []) := ⟨by
                  have h_ := HRN.out
                  rw [rdN] at h_
                  simp only [rd1, Hg.out, if_neg c0, if_neg c1, Option.bind_some, Int.toNat_natCast] at h_
                  exact h_⟩
                obtain ⟨A', hsl, hC', hle'⟩ := C_dropA HC.out hm hbcj
                have HC' := Aside0.mk hC'
                have hj0 : ((0 : Int) ≤ (j : Int)) = True := eq_true (by omega)
                have hj1 : (j < 3) = True := eq_true (by omega)
                obtain ⟨ov, hov⟩ : ∃ ov, w2.cell? ⟨gN, j, none⟩ = some ov := by
                  have h_ := blk_cell HN2.out j
                  rw [List.getElem?_toArray, List.getElem?_map, List.getElem?_append_right (by omega), hxl, Nat.sub_self] at h_
                  exact ⟨_, h_⟩
                have hfz := blk_frozen HN2.out j
                clear hC' HC HRN
                go_wp2_with (fail)
                go_region
                have hwj : IntKind.i64.wrap ((j : Int) + 1) = ((j + 1 : Nat) : Int) := (i64_w _).trans (by unfold wrap64; omega)
                have HB3 := Aside0.mk (below_set (j := j) (v := Value.int .u64 x) (below_drew1 HB2.out) hgw)
                have HN3 := Aside0.mk (blk_set (blk_drew HN2.out) j (Value.int .u64 x))
                have HO3 := Aside0.mk (Kd.R_set (Kd.R_drew HO2.out) (blk_drew HN2.out) (by decide) j (Value.int .u64 x))
                clear HB2 HN2 HO2 hov hfz HX
                go_wp2_with (fail)
                go_roundg k1
                case measure => omega
                case rel => exact ⟨j + 1,xs ++ [x],bj.drop m,A',cj - m,by rw [List.length_drop],rfl,by omega,by simp [hxl],hle',by rw [List.length_drop];omega,.inr (by rw [List.length_drop];omega),(fun y hy => by rcases List.mem_append.1 hy with hy | hy;exact hxs y hy;rw [List.mem_singleton.1 hy];omega),HRN2,⟨HBY.out.drop m⟩,HC',⟨by have h_ := HN3.out;rw [set_arr hxl] at h_;exact h_⟩,HO3,HB3⟩
end Go.Proofs.Ytenmljkddhonmaa.MTbl

namespace Go.Proofs.Ytenmljkddhonmaa.MTbl
open Go.RowKit Go.Proofs.Ytenmljkddhonmaa.QTbl Go.Proofs.YtenmljkddhonmaaW.PrintWords Go.Proofs.YtenmljkddhonmaaW.PrintLast Go.Proofs.YtenmljkddhonmaaW.PrintMore
set_option linter.unusedVariables false
set_option linter.unusedSimpArgs false
theorem addT_bounds (s : St) (k v : ByteArray) (hk : k.size < 1000000) (hv : v.size < 1000000) : (addT s k v).b.length ≤ s.b.length + 30 + k.size + v.size ∧ (addT s k v).p.length ≤ s.p.length + 4 ∧ (addT s k v).rows = s.rows + 1 ∧ (addT s k v).last = k := by
  have hsh : s.sh k ≤ k.size := by
    unfold St.sh
    split
    · omega
    · have := (cpl_le (bytesOf s.last) (bytesOf k)).2
      rwa [bytesOf_length] at this
  have h0 := put_length10 (n := s.sh k) (by omega)
  have h1 := put_length10 (n := k.size - s.sh k) (by omega)
  have h2 := put_length10 (n := v.size) (by omega)
  refine ⟨?_, ?_, rfl, rfl⟩
  · simp only [addT, List.length_append, List.length_drop, bytesOf_length]
    omega
  · simp only [addT]
    split
    · rw [List.length_append, fix_length]; omega
    · omega
theorem R_oth {α : Type} {d : Kd α} {e base : Nat} {ok : Nat → Prop} {w w1 : World} {g : Nat} {v : Value} {l : List α} {cs : Array Value} (h : d.R e w base ok v l) (ho : Oth w w1 g) (hb : w.heap[g]? = some (.cells cs 120 (0,0))) (ht : ∀ q,q ∈ e :: d.E → q ≠ 5 ∧ q ≠ 120) : d.R e w1 base ok v l := by
  refine Kd.R_mono (Kd.R_move (Kd.R_bound h) (fun k hk => ?_)) (fun k hk => hk.1)
  obtain ⟨_, _, _, q, hq, cells, hc⟩ := hk
  refine (ho.2 k cells q ?_ (ht q hq).1 hc).trans hc.symm
  rintro rfl
  rw [hb] at hc
  injection hc with hc
  injection hc with _ hc2
  exact (ht q hq).2 hc2.symm
theorem BldS.blk {w0 w : World} {g : Nat} {s : St} (h : BldS w0 w g s) : ∃ cs, w.heap[g]? = some (.cells cs 120 (0, 0)) := by
  obtain ⟨_, _, _, _, h, _⟩ := h
  exact ⟨_, h⟩
theorem BldS.below {w0 w w' : World} {g : Nat} {s : St} (h : BldS w0 w g s) (hb : Below w.heap.size w w') : BldS w0 w' g s := BldI.below h hb
theorem BldS.base {w0 w : World} {g : Nat} {s : St} (h : BldS w0 w g s) : Below w0.heap.size w0 w := h.2.1
def RdPost (w w' : World) (e : Ending) (res : Option (List S136)) : Prop := ∃ v er,e = .returned (.tuple #[v,.int .i64 er]) ∧ Below w.heap.size w w' ∧ (match res with | none => v = .slice none 0 0 ∧ er = 8 | some l => er = 0 ∧ Kd.R k136 136 w' w.heap.size (fun _ => True) v l)
theorem C_takeI {w : World} {A : Option Addr} {c m : Nat} {xs : List Int} (h : Kd.C (Kd.int .u8) w A xs.length xs) (hm : m ≤ xs.length) (hc : xs.length ≤ c) : (∀ W : World,(Instr.slice 43 (.slice A xs.length c) none (some (.int .i64 (m : Int))) none).run Try.prog W = .ok (.slice A m c) W) ∧ Kd.C (Kd.int .u8) w A m (xs.take m) := by
  obtain ⟨i0, hi0, _, hsz, _⟩ := info_parts info5
  refine ⟨cut_to (P := Try.prog) 43 5 .i64 Try.underlying43 hi0 A xs.length c (m : Int) (by omega) (by omega) hc, ?_⟩
  have := Kd.C_take h hm
  rwa [List.length_take, Nat.min_eq_left hm] at this
theorem i64id {n : Int} (h : -9223372036854775808 ≤ n ∧ n ≤ 9223372036854775807) : IntKind.i64.wrap n = n := (i64_w _).trans (by unfold wrap64; omega)
set_option maxHeartbeats 8000000 in
set_option maxRecDepth 100000 in
theorem block_Read.calls (A0 : Option Addr) (c0 : Nat) (l : List Int) (w : World) (hr0 : Kd.C (Kd.int .u8) w A0 l.length l) (hc0 : l.length ≤ c0) (hby : Bytes l) (hl : l.length ≤ 30000) (res : Option (List S136)) (h : readS l = res) :
    Calls Try.prog 78 #[.slice A0 l.length c0] w fun e w' => RdPost w w' e res := by
  have HR := Aside0.mk hr0
  have HBY := Aside0.mk hby
  by_cases h4 : l.length < 4
  · have h4b : ((l.length : Int) < 4) = True := eq_true (by omega)
    have h4c : (l.length < 4) = True := eq_true h4
    rw [readS, if_pos h4] at h
    subst h
    clear h4
    go_enter Try.func78, Try.ntmps78
    go_wp2_with (fail)
    go_ret2
    exact ⟨_, _, rfl, Below.refl _ _, rfl, rfl⟩
  · have h4b : ((l.length : Int) < 4) = False := eq_false (by omega)
    have h4c : (l.length < 4) = False := eq_false h4
    rw [readS, if_neg h4] at h
    have HH := Aside0.mk h
    have hn4 := cnt_lt l hby
    obtain ⟨n, hn⟩ : ∃ n, Aside0 (n = cnt l) := ⟨_, ⟨rfl⟩⟩
    rw [← hn.out] at hn4
    have hw4 : IntKind.i64.wrap ((l.length : Int) - 4) = ((l.length - 4 : Nat) : Int) := (i64id (by omega)).trans (by omega)
    obtain ⟨A1, hsl1, hC1, hle1⟩ := C_dropA hr0 (show l.length - 4 ≤ l.length by omega) hc0
    have HC1 := Aside0.mk hC1
    obtain ⟨K, hK⟩ := Get32_ev (l := l.drop (l.length - 4)) (hby.drop _) (by rw [List.length_drop]; omega)
    have HK := Aside0.mk (hK K (Nat.le_refl _))
    have hcnt : (val256 ((l.drop (l.length - 4)).take 4) : Int) = (n : Int) := by rw [hn.out]; rfl
    rw [hcnt] at HK
    have hw1 : IntKind.i64.wrap (n : Int) = n := i64id (by omega)
    have hw2 : IntKind.i64.wrap ((n : Int) + 1) = (n : Int) + 1 := i64id (by omega)
    have hw3 : IntKind.i64.wrap (4 * ((n : Int) + 1)) = 4 * ((n : Int) + 1) := i64id (by omega)
    have hw5 : IntKind.i64.wrap ((l.length : Int) - 4 * ((n : Int) + 1)) = (l.length : Int) - 4 * ((n : Int) + 1) := i64id (by omega)
    clear hr0 hby h hC1 hK hcnt h4
    go_enter Try.func78, Try.ntmps78
    go_wp2_with (fail)
    have hq := varint_Get32.calls K A1 _ _ n w HC1.out hle1 HK.out
    rw [List.length_drop] at hq
    refine hq.mono ?_
    rintro e w1 ⟨rfl, hb1⟩
    have HB1 : Aside0 (Below w.heap.size w w1) := ⟨by obtain ⟨m1, e1⟩ := hb1.out; rw [e1]; exact pw_below_drewN (Below.refl _ _) m1⟩
    clear hq hb1 HC1 hsl1 hle1 HK
    by_cases he : l.length < 4 * (n + 1)
    · have heb : ((l.length : Int) - 4 * ((n : Int) + 1) < 0) = True := eq_true (by omega)
      have hres : res = none := by have h_ := HH.out; rw [← hn.out, if_pos he] at h_; exact h_.symm
      subst hres
      clear HH
      go_wp2_with (fail)
      go_ret2
      exact ⟨_, _, rfl, HB1.out, rfl, rfl⟩
    · have heb : ((l.length : Int) - 4 * ((n : Int) + 1) < 0) = False := eq_false (by omega)
      obtain ⟨m, hm⟩ : ∃ m, Aside0 (m = l.length - 4 * (n + 1)) := ⟨_, ⟨rfl⟩⟩
      have hme : (l.length : Int) - 4 * ((n : Int) + 1) = (m : Int) := by rw [hm.out]; omega
      rw [hme] at hw5 heb
      have HH2 : Aside0 ((if (addAll ((rowsOf l).getD []) ((rowsOf l).isSome,St0)).1 = true ∧ eqB (addAll ((rowsOf l).getD []) ((rowsOf l).isSome,St0)).2.out l = true then some ((rowsOf l).getD []) else none) = res) := ⟨by have h_ := HH.out;rw [← hn.out,if_neg he] at h_;exact h_⟩
      have hml : m ≤ l.length := by rw [hm.out]; omega
      obtain ⟨hsl2, hC2⟩ := C_takeI HR.out hml hc0
      have hC2l : (l.take m).length = m := by rw [List.length_take]; omega
      have HRO : Aside0 (rdR (l.take m).length (l.take m) ⟨#[]⟩ [] = rowsOf l) := ⟨by rw [hC2l, rowsOf, ← hn.out, ← hm.out]⟩
      have HC2 := Aside0.mk hC2
      clear HH hC2 hn4
      go_wp2_with (fail)
      have hq := block_read.calls A0 c0 (l.take m) w1 (by rw [hC2l]; exact Kd.C_below HC2.out HB1.out) (by omega) (HBY.out.take m) (by omega) _ HRO.out
      rw [hC2l] at hq
      refine hq.mono ?_
      rintro e w2 ⟨v, ok, rfl, hb2, hv⟩
      have hv2 : ∃ A4 c4, v = .slice A4 ((rowsOf l).getD []).length c4 ∧ ok = (rowsOf l).isSome ∧ Kd.R k136 136 w2 w.heap.size (fun _ => True) v ((rowsOf l).getD []) := by
        cases hro : rowsOf l with
        | none =>
          rw [hro] at hv
          obtain ⟨rfl, rfl⟩ := hv
          exact ⟨none, 0, rfl, rfl, Kd.R_nil _ _ _ _ _⟩
        | some L =>
          rw [hro] at hv
          obtain ⟨rfl, hR⟩ := hv
          obtain ⟨A4, c4, e4⟩ := Kd.R_slice hR
          exact ⟨A4, c4, e4, rfl, Kd.R_lower hR HB1.out.size⟩
      obtain ⟨A4, c4, rfl, rfl, hRL⟩ := hv2
      obtain ⟨hfl, hfit⟩ := rowsOf_fit hl
      have HB2 := Aside0.mk (below_step HB1.out hb2)
      have HRL := Aside0.mk hRL
      clear hv hRL hq hb2 HC2 HRO HB1
      generalize (rowsOf l).isSome = ok0 at HH2 ⊢
      generalize (rowsOf l).getD [] = L at *
      go_wp2_with (fail)
      refine (block_NewS.calls w w2 HB2.out).mono ?_
      rintro e w3 ⟨g, rfl, hI, hb3, hg⟩
      have HI := Aside0.mk hI
      have HRL3 := Aside0.mk (Kd.R_below HRL.out hb3)
      clear HB2 HRL hI hb3 hg
      obtain ⟨fin, hfin⟩ : ∃ fin, Aside0 (addAll L (ok0, St0) = fin) := ⟨_, ⟨rfl⟩⟩
      rw [hfin.out] at HH2
      go_wp2_with (fail)
      go_loopg [7,39] L.length (fun kx s7 s39 wr => ∃ (i : Nat) (okb : Bool) (s : St),s7 = .bool okb ∧ s39 = .int .i64 i ∧ i + kx = L.length ∧ Aside0 (addAll (L.drop i) (okb,s) = fin) ∧ s.rows ≤ i ∧ s.b.length ≤ 60030 * i ∧ s.p.length ≤ 4 * i ∧ s.last.size ≤ 30000 ∧ Aside0 (BldS w wr g s) ∧ Aside0 (Kd.R k136 136 wr w.heap.size (fun _ => True) (.slice A4 L.length c4) L))
      case atStart => exact ⟨0, ok0, St0, rfl, rfl, by omega, hfin, Nat.le_refl _, Nat.le_refl _, Nat.le_refl _, by decide, HI, HRL3⟩
      case round =>
        clear HI HRL3 hfin
        obtain ⟨i, okb, s, rfl, rfl, hi, HA, hs1, hs2, hs3, hs4, HI, HRL⟩ := hrel
        cases gk with
        | zero =>
          have hit : ((i : Int) < (L.length : Int)) = False := eq_false (by omega)
          have hfe : fin = (okb, s) := by
            have h_ := HA.out
            rw [List.drop_eq_nil_of_le (by omega), addAll] at h_
            exact h_.symm
          subst hfe
          clear HA
          simp only at HH2
          cases okb with
          | false =>
            have hres : res = none := by have h_ := HH2.out; rw [if_neg (by simp)] at h_; exact h_.symm
            subst hres
            go_wp2_with (fail)
            go_ret2
            exact ⟨_, _, rfl, HI.out.base, rfl, rfl⟩
          | true =>
            go_wp2_with (fail)
            have hout : s.b.length < 4294967296 ∧ s.p.length < 4294967296 := by omega
            refine (block_BytesS.calls w wr g s HI.out hout.1 hout.2).mono ?_
            rintro e w4 ⟨v, rfl, hv, hI4, hb4⟩
            obtain ⟨A5, c5, e5⟩ := Kd.R_slice hv
            subst e5
            have HI4 := Aside0.mk hI4
            have HRL4 := Aside0.mk (Kd.R_below HRL.out hb4)
            have HV := Aside0.mk hv
            clear HI HRL hv hI4 hb4
            obtain ⟨rb, hrb⟩ : ∃ rb, Aside0 (rb = eqB s.out l) := ⟨_, ⟨rfl⟩⟩
            rw [← hrb.out] at HH2
            go_wp2_with (fail)
            refine (bytes_Equal.calls A5 c5 s.out A0 c0 l rb w4 (Kd.R_reads' HV.out).2.2 (Kd.R_reads' HV.out).2.1 (Kd.C_below HR.out HI4.out.base) hc0 (by rw [hrb.out]; rfl)).mono ?_
            rintro e w5 ⟨rfl, hd5⟩
            have hb5 : Below w4.heap.size w4 w5 := by obtain ⟨m1, e1⟩ := hd5.out; rw [e1]; exact pw_below_drewN (Below.refl _ _) m1
            have HB5 := Aside0.mk (below_step HI4.out.base hb5)
            have HRL5 := Aside0.mk (Kd.R_below HRL4.out hb5)
            clear hd5 hb5 HI4 HRL4 HV hrb
            cases rb with
            | false =>
              have hres : res = none := by have h_ := HH2.out; rw [if_neg (by simp)] at h_; exact h_.symm
              subst hres
              go_wp2_with (fail)
              go_ret2
              exact ⟨_, _, rfl, HB5.out, rfl, rfl⟩
            | true =>
              have hres : res = some L := by have h_ := HH2.out; rw [if_pos ⟨trivial, rfl⟩] at h_; exact h_.symm
              subst hres
              go_wp2_with (fail)
              go_ret2
              exact ⟨_, _, rfl, HB5.out, rfl, HRL5.out⟩
        | succ kk =>
          have hit : ((i : Int) < (L.length : Int)) = True := eq_true (by omega)
          have hi0 : ((0 : Int) ≤ (i : Int)) = True := eq_true (by omega)
          have hi1 : (i < L.length) = True := eq_true (by omega)
          obtain ⟨ad, rfl, g0, g1⟩ := at_T136 (Kd.R_reads' HRL.out).2.2 (i : Int) (by omega) (by omega)
          rw [Int.toNat_natCast] at g0
          simp only [Int.toNat_natCast] at g1
          have hw64 : IntKind.i64.wrap ((i : Int) + 1) = ((i + 1 : Nat) : Int) := i64id (by omega)
          have hdi : L.drop i = rd_T136 L (i : Int) :: L.drop (i + 1) := by
            unfold rd_T136
            rw [Int.toNat_natCast, List.drop_eq_getElem_cons (by omega), List.getD_eq_getElem?_getD, List.getElem?_eq_getElem (by omega)]; rfl
          have hfi : Fit (rd_T136 L (i : Int)) := hfit _ (List.mem_of_mem_drop (hdi ▸ List.mem_cons_self))
          have h_ := HA.out
          rw [hdi, addAll] at h_
          simp only at h_
          clear hdi HA
          generalize rd_T136 L (i : Int) = y at h_ g0 g1 hfi
          have HA := Aside0.mk h_
          clear h_
          cases okb with
          | false =>
            go_wp2_with (fail)
            go_roundg kk
            case measure => omega
            case rel => exact ⟨i + 1, false, s, rfl, rfl, by omega, HA, by omega, by omega, by omega, hs4, ⟨HI.out.below (below_alloc (Below.refl _ _) _)⟩, ⟨Kd.R_alloc HRL.out _⟩⟩
          | true =>
            go_wp2_with (fail)
            have HI2 : Aside0 (BldS w (wr.alloc (.cells #[.string y.f0, .string y.f1] 136)) g s) := ⟨HI.out.below (below_alloc (Below.refl _ _) _)⟩
            have HRL2 := Aside0.mk (Kd.R_alloc HRL.out (.cells #[.string y.f0, .string y.f1] 136))
            have hfy := hfi.1
            have hfy2 := hfi.2
            have hbd := addT_bounds s y.f0 y.f1 (by omega) (by omega)
            refine (block_Add.calls w _ g s y.f0 y.f1 HI2.out (by omega) (by omega) (by omega) (by omega) (by omega) (by omega)).mono ?_
            rintro e w4 ⟨rfl, hI4, hO4⟩
            obtain ⟨cs, hcs⟩ := HI2.out.blk
            have HRL4 := Aside0.mk (R_oth HRL2.out hO4 hcs (by decide))
            have HI4 := Aside0.mk hI4
            obtain ⟨s2, hs2e⟩ : ∃ s2, Aside0 (s2 = if addB s y.f0 then addT s y.f0 y.f1 else s) := ⟨_, ⟨rfl⟩⟩
            have hs2b : s2.rows ≤ s.rows + 1 ∧ s2.b.length ≤ s.b.length + 60030 ∧ s2.p.length ≤ s.p.length + 4 ∧ s2.last.size ≤ 30000 := by
              rw [hs2e.out]
              split
              · rw [hbd.2.2.1, hbd.2.2.2]; omega
              · omega
            rw [← hs2e.out] at HI4
            have HA2 : Aside0 (addAll (L.drop (i + 1)) (addB s y.f0, s2) = fin) := ⟨by rw [hs2e.out]; exact HA.out⟩
            generalize addB s y.f0 = okn at HA2 ⊢
            clear hI4 hO4 hcs HI HRL HI2 HRL2 HA hs2e hbd g0 g1
            go_wp2_with (fail)
            go_roundg kk
            case measure => omega
            case rel => exact ⟨i + 1, okn, s2, rfl, rfl, by omega, HA2, by omega, by omega, by omega, hs2b.2.2.2, HI4, HRL4⟩
end Go.Proofs.Ytenmljkddhonmaa.MTbl

namespace Go.Proofs.Ytenmljkddhonmaa.MTbl
open Go.RowKit Go.Proofs.Ytenmljkddhonmaa.QTbl Go.Proofs.YtenmljkddhonmaaW.PrintWords Go.Proofs.YtenmljkddhonmaaW.PrintLast Go.Proofs.YtenmljkddhonmaaW.PrintMore
set_option linter.unusedVariables false
set_option linter.unusedSimpArgs false
theorem bytes_C (W : World) (s : ByteArray) (hs : s.size ≤ 1000000) : Kd.C (Kd.int .u8) (Lib.bytesWorld W 5 s) (some ⟨W.heap.size, 0, none⟩) (bytesOf s).length (bytesOf s) := by
  have := Kd.C_of_reads (h1 := fun _ => rfl) (bytes_reads W 5 s (by omega))
  rw [bytesOf_length]
  exact this
set_option maxHeartbeats 1000000 in
set_option maxRecDepth 1000000 in
theorem table_entries.calls (A0 : Option Addr) (c0 : Nat) (l : List Int) (es : List S28) (w : World) (hr0 : Kd.C (Kd.int .u8) w A0 l.length l) (hc0 : l.length ≤ c0) (hby : Bytes l) (hl : l.length ≤ 30000) (h : readS l = some (es.map rowOf)) (hes : ∀ e ∈ es,okB e) (hle : es.length ≤ 1000000) :
    Calls Try.prog 57 #[.slice A0 l.length c0] w fun e w' => ∃ v, e = .returned (.tuple #[v, .bool true]) ∧ Kd.R k28 28 w' w.heap.size (fun _ => True) v es ∧ Below w.heap.size w w' := by
  have hu28 := Try.underlying28
  have hu136 := Try.underlying136
  have HQ := Aside0.mk (block_Read.calls A0 c0 l w hr0 hc0 hby hl _ h)
  have HES := Aside0.mk hes
  have HLE := Aside0.mk hle
  clear hr0 hc0 hby hl h hes hle
  go_enter Try.func57, Try.ntmps57
  go_wp2_with (go_at_call 78;refine HQ.out.mono ?_;rintro e w1 ⟨v1,er,rfl,hb,hres⟩;obtain ⟨rfl,hv⟩ := hres;obtain ⟨Av,cv,rfl⟩ := Kd.R_slice hv;have HV := Aside0.mk (Kd.R_reads' hv).2;rw [List.length_map];have HB1 := Aside0.mk hb;clear hb hv)
  go_loopg [6,22] es.length (fun kx s6 s22 wr => ∃ i : Nat,s22 = .int .i64 i ∧ i ≤ es.length ∧ es.length - i ≤ kx ∧ Aside0 (Kd.R k28 28 wr w1.heap.size (fun _ => True) s6 (es.take i)) ∧ Aside0 (Below w1.heap.size w1 wr))
  case atStart => exact ⟨0, rfl, Nat.zero_le _, by omega, ⟨Kd.R_nil _ _ _ _ _⟩, ⟨Below.refl _ _⟩⟩
  case round =>
    obtain ⟨i, rfl, hie, hik, HO, HB⟩ := hrel
    by_cases hi : i < es.length
    · cases gk with
      | zero => omega
      | succ k1 =>
      have HVr := Aside0.mk (Kd.C_below HV.out.2 HB.out)
      rw [List.length_map] at HVr
      obtain ⟨ad, rfl, g0, g1⟩ := at_T136 HVr.out (i : Int) (by omega) (by omega)
      have hx : rd_T136 (es.map rowOf) (i : Int) = rowOf (es[i]) := by
        unfold rd_T136; rw [Int.toNat_natCast, List.getD_eq_getElem?_getD, List.getElem?_map, List.getElem?_eq_getElem hi]; rfl
      have hxm : es[i] ∈ es := List.getElem_mem hi
      have htk : es.take (i + 1) = es.take i ++ [es[i]] := by rw [List.take_succ_eq_append_getElem hi]
      have HX := HES.out _ hxm
      rw [hx] at g0 g1
      rw [Int.toNat_natCast] at g0
      simp only [Int.toNat_natCast] at g1
      generalize es[i] = x at *
      have g0 : wr.cell? (ad.add (i * 2)) = some (.string (keyS x)) := g0
      have g1 : wr.cell? ⟨(ad.add (i * 2)).block, (ad.add (i * 2)).off + 1, none⟩ = some (.string (valS x)) := g1
      obtain ⟨K, hK⟩ := valS_text HX
      have HG := Aside0.mk (hK K (Nat.le_refl _))
      have HRS := valS_rest HX
      have HSZ := valS_size HX.2.1
      have hsp := put_length10 (n := x.f3.size) (by have := HX.2.1; omega)
      have hpp := put_pos (n := x.f3.size) (by have := HX.2.1; omega)
      have h3 := HX.2.1
      have h4 := HX.2.2
      obtain ⟨m, hm⟩ : ∃ m, m = (put x.f3.size).length + x.f3.size := ⟨_, rfl⟩
      rw [← hm] at HG HRS
      have hmz : ((m : Int) == 0) = false := beq_eq_false_iff_ne.2 (by omega)
      have hms : m ≤ (valS x).size := by omega
      have hvs : (valS x).size ≤ 1000000 := by omega
      have p1 : ((0 : Int) ≤ (i : Int)) = True := eq_true (by omega)
      have p2 : ((i : Int) < (es.length : Int)) = True := eq_true (by omega)
      have p3 : (i < es.length) = True := eq_true hi
      have p4 : ((0 : Int) ≤ (m : Int)) = True := eq_true (by omega)
      have p5 : ((m : Int) ≤ ((valS x).size : Int)) = True := eq_true (by omega)
      have kb : ∀ W,(convert 9 43 (.string (valS x))).run Try.prog W = .ok (.slice (some ⟨W.heap.size,0,none⟩) (bytesOf (valS x)).length (grownCap W (valS x).size 0 5)) (Lib.bytesWorld W 5 (valS x)) := fun W => by rw [bytesOf_length];exact print_bytes (P := Try.prog) 9 43 5 Try.underlying9 Try.underlying43 Try.underlying5 (valS x) W
      have HU := Aside0.mk (unkeyE.calls x HX.1)
      have HKB := Aside0.mk hvs
      clear HSZ hsp hpp h3 h4 hm hK hx hxm hvs
      go_wp2_with (first | (go_at_call 79;have ha := heap_new_ wr (.cells #[.string (keyS x),.string (valS x)] 136);have HBa := Aside0.mk (below_alloc HB.out (.cells #[.string (keyS x),.string (valS x)] 136));refine (HU.out _).mono ?_;rintro e w2 ⟨rfl,hb⟩;have HB2 := Aside0.mk (below_step HBa.out hb);have HR2 := Aside0.mk (below_step (below_alloc (Below.refl _ wr) (.cells #[.string (keyS x),.string (valS x)] 136)) hb);have ha2 := (hb.block wr.heap.size (by simp)).trans ha;have hab := blk_alloc ha2 (.cells #[.string x.f0,.int .i64 x.f1,.int .i64 x.f2,.string ⟨#[]⟩,.string ⟨#[]⟩] 28);have z0 := (blk_cell hab 0).trans rfl;have fz0 := blk_frozen hab 0;have z1 := (blk_cell hab 1).trans rfl;have fz1 := blk_frozen hab 1;have HE := Aside0.mk (heap_new_ w2 (.cells #[.string x.f0,.int .i64 x.f1,.int .i64 x.f2,.string ⟨#[]⟩,.string ⟨#[]⟩] 28));clear hb))
      have HC80 := bytes_C (w2.alloc (.cells #[.string x.f0, .int .i64 x.f1, .int .i64 x.f2, .string ⟨#[]⟩, .string ⟨#[]⟩] 28)) (valS x) HKB.out
      rw [World.size_alloc] at HC80
      have hcap : (bytesOf (valS x)).length ≤ grownCap (w2.alloc (.cells #[.string x.f0,.int .i64 x.f1,.int .i64 x.f2,.string ⟨#[]⟩,.string ⟨#[]⟩] 28)) (valS x).size 0 5 := (by rw [bytesOf_length];exact grownCap_ge _ _ _ _)
      have hQ80 := varint_GetText.calls K (some ⟨w2.heap.size + 1,0,none⟩) (grownCap (w2.alloc (.cells #[.string x.f0,.int .i64 x.f1,.int .i64 x.f2,.string ⟨#[]⟩,.string ⟨#[]⟩] 28)) (valS x).size 0 5) (bytesOf (valS x)) x.f3 m (Lib.bytesWorld (w2.alloc (.cells #[.string x.f0,.int .i64 x.f1,.int .i64 x.f2,.string ⟨#[]⟩,.string ⟨#[]⟩] 28)) 5 (valS x)) HC80 hcap HG.out
      clear HC80 hcap
      refine hQ80.mono ?_
      rintro e w4 ⟨rfl, hb⟩
      have HBw := Aside0.mk (bytes_below (Below.refl _ (w2.alloc (.cells #[.string x.f0, .int .i64 x.f1, .int .i64 x.f2, .string ⟨#[]⟩, .string ⟨#[]⟩] 28))) (Nat.le_refl _) 5 (valS x))
      have HB4 := Aside0.mk (below_step (below_step (below_alloc HB2.out (.cells #[.string x.f0, .int .i64 x.f1, .int .i64 x.f2, .string ⟨#[]⟩, .string ⟨#[]⟩] 28)) HBw.out) hb)
      have HR4 := Aside0.mk (below_step (below_step (below_alloc HR2.out (.cells #[.string x.f0, .int .i64 x.f1, .int .i64 x.f2, .string ⟨#[]⟩, .string ⟨#[]⟩] 28)) HBw.out) hb)
      have hsz2 : (w2.alloc (.cells #[.string x.f0, .int .i64 x.f1, .int .i64 x.f2, .string ⟨#[]⟩, .string ⟨#[]⟩] 28)).heap.size = w2.heap.size + 1 := by simp
      have hE4 := (hb.block w2.heap.size (by have := HBw.out.size; omega)).trans ((HBw.out.block w2.heap.size (by omega)).trans HE.out)
      have hA4 := (hb.block wr.heap.size (by have := HBw.out.size; have := blk_lt ha2; omega)).trans ((HBw.out.block wr.heap.size (by have := blk_lt ha2; omega)).trans hab)
      have a0 := (blk_cell hA4 0).trans rfl
      have fa0 := blk_frozen hA4 0
      have a1 := (blk_cell hA4 1).trans rfl
      have fa1 := blk_frozen hA4 1
      have e0 := (blk_cell hE4 0).trans rfl
      have fe0 := blk_frozen hE4 0
      have e1 := (blk_cell hE4 1).trans rfl
      have fe1 := blk_frozen hE4 1
      have e2 := (blk_cell hE4 2).trans rfl
      have fe2 := blk_frozen hE4 2
      have e3 := (blk_cell hE4 3).trans rfl
      have fe3 := blk_frozen hE4 3
      have e4 := (blk_cell hE4 4).trans rfl
      have fe4 := blk_frozen hE4 4
      clear hb hQ80
      go_wp2
      go_region
      have hwr2 : wr.heap.size ≤ w2.heap.size := HR2.out.size
      have hw12 : w1.heap.size ≤ w2.heap.size := HB2.out.size
      have HB5 : Aside0 (Below w1.heap.size w1 (((w4.setCell ⟨w2.heap.size,3,none⟩ (.string x.f3)).setCell ⟨w2.heap.size,4,none⟩ (.string x.f4)).drew)) := ⟨below_drew1 (below_set (below_set HB4.out hw12) hw12)⟩
      have HR5 : Aside0 (Below wr.heap.size wr (((w4.setCell ⟨w2.heap.size,3,none⟩ (.string x.f3)).setCell ⟨w2.heap.size,4,none⟩ (.string x.f4)).drew)) := ⟨below_drew1 (below_set (below_set HR4.out hwr2) hwr2)⟩
      have hE5 : (((w4.setCell ⟨w2.heap.size,3,none⟩ (.string x.f3)).setCell ⟨w2.heap.size,4,none⟩ (.string x.f4)).drew).heap[w2.heap.size]? = some (.cells #[.string x.f0,.int .i64 x.f1,.int .i64 x.f2,.string x.f3,.string x.f4] 28 (0,0)) := blk_drew (blk_put (blk_put hE4 3 _ rfl) 4 _ rfl)
      have HO5 := Aside0.mk (Kd.R_mono (ok' := fun _ => True) (Kd.R_elder' (v := .slice none 0 0) HO.out (by intro k hk; simp [Value.ownBlock] at hk) HR5.out) (fun _ _ => trivial))
      generalize ((w4.setCell ⟨w2.heap.size, 3, none⟩ (.string x.f3)).setCell ⟨w2.heap.size, 4, none⟩ (.string x.f4)).drew = w5 at HB5 HR5 hE5 HO5 ⊢
      clear e0 fe0 e1 fe1 e2 fe2 e3 fe3 e4 fe4 a0 a1 fa0 fa1 z0 z1 fz0 fz1
      have e0 := (blk_cell hE5 0).trans rfl
      have fe0 := blk_frozen hE5 0
      have e1 := (blk_cell hE5 1).trans rfl
      have fe1 := blk_frozen hE5 1
      have e2 := (blk_cell hE5 2).trans rfl
      have fe2 := blk_frozen hE5 2
      have e3 := (blk_cell hE5 3).trans rfl
      have fe3 := blk_frozen hE5 3
      have e4 := (blk_cell hE5 4).trans rfl
      have fe4 := blk_frozen hE5 4
      go_wp2_with (first | ((with_reducible refine gate_builtin (b := .append) (xs := #[.tmp 52,.tmp 54]) rfl ?_);at_builtin;refine Kd.R_append k28 (w0 := w1) w1.heap.size rfl (.tmp 52) (.tmp 54) 24 28 (.agg #[(.string ⟨#[]⟩),(.int .i64 0),(.int .i64 0),(.string ⟨#[]⟩),(.string ⟨#[]⟩)]) 64 rfl Try.underlying24 info28 rfl (by decide) (by omega) u6 (es.take i) x [.string x.f0,.int .i64 x.f1,.int .i64 x.f2,.string x.f3,.string x.f4] (fun _ => True) (fun _ => False) rfl rfl ?aP (fun _ hk => hk.elim) ?aF ?aO ?aB ?aS ?aL ?_;(case aP => exact k28_mkM _ _ _ x);(case aB => exact (by repeat (first | exact HB5.out | apply below_alloc | apply pw_below_drewN | apply below_drew1)));(case aF => exact (fun _ _ => trivial));(case aO => exact (by (with_reducible repeat (first | apply Kd.R_alloc | apply Kd.R_drewN | apply Kd.R_drew));exact HO5.out));(case aS => exact (below_size (by repeat (first | exact HB5.out | apply below_alloc | apply pw_below_drewN | apply below_drew1))));(case aL => have := HLE.out;rw [List.length_take];omega);intro v6 w6 ho hb hg hat;have HO6 := Aside0.mk ho;have HB6 := Aside0.mk hb;clear ho hb hg hat))
      go_roundg k1
      case measure => omega
      case rel => exact ⟨i + 1, by rw [wrap64_id (by omega) (by have := HLE.out; omega)]; rfl, by omega, by omega, ⟨by rw [htk]; exact HO6.out⟩, HB6⟩
    · obtain rfl : i = es.length := by omega
      have p2 : ((es.length : Int) < (es.length : Int)) = False := eq_false (by omega)
      rw [List.take_length] at HO
      go_wp2
      go_ret2
      exact ⟨_, rfl, Kd.R_lower HO.out HB1.out.size, below_step HB1.out HB.out⟩
end Go.Proofs.Ytenmljkddhonmaa.MTbl

namespace Go.Proofs.Ytenmljkddhonmaa.QTbl
open Go.RowKit Go.Proofs.Ytenmljkddhonmaa.MTbl Go.Proofs.YtenmljkddhonmaaW.PrintWords Go.Proofs.YtenmljkddhonmaaW.PrintLast Go.Proofs.YtenmljkddhonmaaW.PrintMore
set_option linter.unusedVariables false
set_option linter.unusedSimpArgs false
/-! Rows laid and read again. -/
theorem bytesOf_bytes (s : ByteArray) : Bytes (bytesOf s) := by
  intro c hc
  unfold bytesOf at hc
  obtain ⟨b, _, rfl⟩ := List.mem_map.1 hc
  have := b.toNat_lt
  omega
theorem strOf_bytesOf (s : ByteArray) : strOfNums (bytesOf s) = s := by
  apply ByteArray.ext
  apply Array.toList_inj.1
  unfold strOfNums bytesOf
  rw [List.map_map]
  have : ((fun n : Int => UInt8.ofNat n.toNat) ∘ fun b : UInt8 => (b.toNat : Int)) = id := by
    funext b
    simp
  rw [this, List.map_id]
theorem bytesOf_strOf {l : List Int} (h : Bytes l) : bytesOf (strOfNums l) = l := by
  unfold strOfNums bytesOf
  rw [List.toList_toArray, List.map_map]
  refine (List.map_congr_left (fun x hx => ?_)).trans (List.map_id l)
  obtain ⟨h0, h1⟩ := h x hx
  show ((UInt8.ofNat x.toNat).toNat : Int) = x
  rw [UInt8.toNat_ofNat']
  omega
theorem bytesOf_inj {a b : ByteArray} (h : bytesOf a = bytesOf b) : a = b := by rw [← strOf_bytesOf a, h, strOf_bytesOf]
theorem bytesOf_app (a b : ByteArray) : bytesOf (a ++ b) = bytesOf a ++ bytesOf b := by
  unfold bytesOf
  rw [ByteArray.data_append, Array.toList_append, List.map_append]
theorem bytesOf_to (k : ByteArray) (n : Nat) : bytesOf (k.extract 0 n) = (bytesOf k).take n := by
  unfold bytesOf
  rw [ByteArray.data_extract, Array.toList_extract, List.extract_eq_take_drop, List.drop_zero, Nat.sub_zero, List.map_take]
theorem cpl_take : ∀ a b : List Int, a.take (cpl a b) = b.take (cpl a b)
  | [], b => by simp [cpl]
  | _ :: _, [] => by simp [cpl]
  | x :: a, y :: b => by
    unfold cpl
    split
    · rename_i h; subst h; simp only [List.take_succ_cons]; rw [cpl_take a b]
    · simp
theorem sh_le (s : St) (k : ByteArray) : s.sh k ≤ s.last.size ∧ s.sh k ≤ k.size := by
  unfold St.sh
  split
  · omega
  · have := cpl_le (bytesOf s.last) (bytesOf k)
    rwa [bytesOf_length, bytesOf_length] at this
theorem sh_take (s : St) (k : ByteArray) : (bytesOf s.last).take (s.sh k) = (bytesOf k).take (s.sh k) := by
  unfold St.sh
  split
  · simp
  · exact cpl_take _ _
/-- What a row comes to. -/
def chunk (s : St) (r : S136) : List Int := (put (s.sh r.f0) ++ put (r.f0.size - s.sh r.f0) ++ put r.f1.size) ++ (bytesOf r.f0).drop (s.sh r.f0) ++ bytesOf r.f1
def chunks : St → List S136 → List Int
  | _, [] => []
  | s, r :: t => chunk s r ++ chunks (addT s r.f0 r.f1) t
/-- All rows added. -/
def addTs : St → List S136 → St
  | s, [] => s
  | s, r :: t => addTs (addT s r.f0 r.f1) t
theorem addTs_b : ∀ (s : St) (l : List S136), (addTs s l).b = s.b ++ chunks s l
  | s, [] => by simp [addTs, chunks]
  | s, r :: t => by
    rw [addTs, chunks, addTs_b]
    simp only [addT, chunk, List.append_assoc]
theorem addTs_p : ∀ (s : St) (l : List S136), s.p.length % 4 = 0 → (addTs s l).p.length % 4 = 0
  | s, [], h => h
  | s, r :: t, h => by
    rw [addTs]
    refine addTs_p _ t ?_
    simp only [addT]
    split
    · rw [List.length_append, fix_length]; omega
    · exact h
theorem rd1_put {n L : Nat} {rest : List Int} (h : n < 18446744073709551616) (hb : n ≤ (put n ++ rest).length + L) : rd1 (put n ++ rest) L = some ((n : Int), rest) := by
  unfold rd1
  rw [get_put h rest]
  have := put_pos h
  simp only
  rw [if_neg (by omega), if_neg (by omega), Int.toNat_natCast, List.drop_left]
theorem rdR_chunk (s : St) (r : S136) (rest : List Int) (acc : List S136) (f : Nat) (hr : Fit r) : rdR (f + 1) (chunk s r ++ rest) s.last acc = rdR f rest r.f0 (acc ++ [r]) := by
  obtain ⟨h1, h2⟩ := hr
  obtain ⟨g1, g2⟩ := sh_le s r.f0
  have ht := sh_take s r.f0
  have hdl : ((bytesOf r.f0).drop (s.sh r.f0)).length = r.f0.size - s.sh r.f0 := by rw [List.length_drop, bytesOf_length]
  have hvl : (bytesOf r.f1).length = r.f1.size := bytesOf_length _
  have e1 : chunk s r ++ rest = put (s.sh r.f0) ++ (put (r.f0.size - s.sh r.f0) ++ (put r.f1.size ++ ((bytesOf r.f0).drop (s.sh r.f0) ++ (bytesOf r.f1 ++ rest)))) := by simp only [chunk,List.append_assoc]
  have hne : chunk s r ++ rest ≠ [] := by
    intro h
    have h3 := congrArg List.length h
    have := put_pos (n := s.sh r.f0) (by omega)
    rw [e1] at h3
    simp only [List.length_append, List.length_nil] at h3
    omega
  have hN : rdN 3 (chunk s r ++ rest) s.last.size [] = some ([((s.sh r.f0 : Nat) : Int),((r.f0.size - s.sh r.f0 : Nat) : Int),((r.f1.size : Nat) : Int)],(bytesOf r.f0).drop (s.sh r.f0) ++ (bytesOf r.f1 ++ rest)) := by
    rw [e1, rdN, rd1_put (by omega) (by omega), Option.bind_some, rdN]
    simp only
    rw [rd1_put (by omega) (by simp only [List.length_append]; omega), Option.bind_some, rdN]
    simp only
    rw [rd1_put (by omega) (by simp only [List.length_append]; omega), Option.bind_some, rdN]
    rfl
  rw [rdR, if_neg hne, hN, Option.bind_some]
  simp only [List.getD_cons_zero, List.getD_cons_succ, Int.toNat_natCast]
  rw [if_neg (by omega), if_neg (by simp only [List.length_append]; omega), if_neg (by simp only [List.length_append]; omega)]
  have hk : s.last.extract 0 (s.sh r.f0) ++ strOfNums (((bytesOf r.f0).drop (s.sh r.f0) ++ (bytesOf r.f1 ++ rest)).take (r.f0.size - s.sh r.f0)) = r.f0 := by
    apply bytesOf_inj
    rw [bytesOf_app, bytesOf_to, ht, List.take_left' hdl, bytesOf_strOf ((bytesOf_bytes _).drop _), List.take_append_drop]
  rw [hk]
  congr 1
  · rw [← List.append_assoc, List.drop_left' (by rw [List.length_append]; omega)]
  · congr 2
    rw [← List.append_assoc, List.take_left' (by rw [List.length_append]; omega), List.drop_left' hdl, strOf_bytesOf]
theorem rdR_chunks : ∀ (l : List S136) (s : St) (acc : List S136) (f : Nat), (∀ r ∈ l, Fit r) → (chunks s l).length ≤ f → rdR f (chunks s l) s.last acc = some (acc ++ l)
  | [], s, acc, f, _, _ => by
    simp only [chunks, List.append_nil]
    cases f with
    | zero => rfl
    | succ f => rw [rdR, if_pos rfl]
  | r :: t, s, acc, f, hf, hl => by
    rw [chunks] at hl ⊢
    have hr := hf r (by simp)
    have := put_pos (n := s.sh r.f0) (by have := (sh_le s r.f0).2; have := hr.1; omega)
    rw [List.length_append] at hl
    have hc : 1 ≤ (chunk s r).length := by simp only [chunk, List.length_append]; omega
    obtain ⟨f, rfl⟩ : ∃ f', f = f' + 1 := ⟨f - 1, by omega⟩
    rw [rdR_chunk s r _ _ _ hr]
    have := rdR_chunks t (addT s r.f0 r.f1) (acc ++ [r]) f (fun q hq => hf q (by simp [hq])) (by omega)
    rw [show (addT s r.f0 r.f1).last = r.f0 from rfl] at this
    rw [this, List.append_assoc, List.singleton_append]
theorem eqB_refl (l : List Int) : eqB l l = true := by unfold eqB; exact beq_self_eq_true _
theorem addAll_false : ∀ (l : List S136) (s : St), addAll l (false, s) = (false, s)
  | [], _ => rfl
  | r :: t, s => by rw [addAll]; exact addAll_false t s
theorem addAll_true : ∀ (l : List S136) (s : St), (addAll l (true, s)).1 = true → addAll l (true, s) = (true, addTs s l)
  | [], s, _ => rfl
  | r :: t, s, h => by
    rw [addAll] at h ⊢
    simp only [if_true] at h ⊢
    cases hb : addB s r.f0 with
    | false => rw [hb] at h; simp only [if_false, Bool.false_eq_true] at h; rw [addAll_false] at h; cases h
    | true =>
      rw [hb] at h
      simp only [if_true] at h ⊢
      rw [addAll_true t _ h, addTs]
theorem readS_out (l : List S136) (hf : ∀ r ∈ l, Fit r) (ha : (addAll l (true, St0)).1 = true) (hp : (addTs St0 l).p.length < 4294967296) : readS (addTs St0 l).out = some l := by
  have hb : (addTs St0 l).b = chunks St0 l := by rw [addTs_b]; rfl
  have hp4 := addTs_p St0 l rfl
  obtain ⟨s, hs⟩ : ∃ s, s = addTs St0 l := ⟨_, rfl⟩
  rw [← hs] at hb hp hp4 ⊢
  have hlen : s.out.length = s.b.length + s.p.length + 4 := by simp only [St.out, List.length_append, fix_length]
  have hcnt : cnt s.out = s.p.length / 4 := by
    unfold cnt
    rw [hlen, show s.b.length + s.p.length + 4 - 4 = (s.b ++ s.p).length by rw [List.length_append]; omega, St.out, List.drop_left, List.take_of_length_le (by rw [fix_length]; omega), val256_fix]
    exact Nat.mod_eq_of_lt (by omega)
  have he : s.out.length - 4 * (cnt s.out + 1) = s.b.length := by rw [hcnt, hlen]; omega
  have hro : rowsOf s.out = some l := by
    rw [rowsOf, he, St.out, List.append_assoc, List.take_left, hb]
    have := rdR_chunks l St0 [] _ hf (Nat.le_refl _)
    rw [List.nil_append] at this
    exact this
  rw [readS, if_neg (by omega), if_neg (by rw [hcnt, hlen]; omega), hro]
  simp only [Option.getD_some, Option.isSome_some]
  rw [addAll_true l St0 ha, ← hs, if_pos ⟨rfl, eqB_refl _⟩]
end Go.Proofs.Ytenmljkddhonmaa.QTbl

namespace Go.Proofs.Ytenmljkddhonmaa.MTbl
open Go.RowKit Go.Proofs.Ytenmljkddhonmaa.QTbl Go.Proofs.YtenmljkddhonmaaW.PrintWords Go.Proofs.YtenmljkddhonmaaW.PrintLast Go.Proofs.YtenmljkddhonmaaW.PrintMore
set_option linter.unusedVariables false
set_option linter.unusedSimpArgs false
/-! PURE: how entries are laid into blocks -/
/-- A builder that took these entries. -/
def stOf (c : List S28) : St := addTs St0 (c.map rowOf)
def blk (c : List S28) : List Int := (stOf c).out
def szB (s : St) : Nat := s.b.length + s.p.length + 4
theorem out_length (s : St) : s.out.length = szB s := by simp only [St.out, List.length_append, fix_length, szB]
/-- The blocks' entries; cur: what the builder has. -/
def cutB : List S28 → List S28 → List (List S28)
  | _, [] => []
  | cur, x :: t => if 200 ≤ szB (stOf (cur ++ [x])) ∨ t = [] then (cur ++ [x]) :: cutB [] t else cutB (cur ++ [x]) t
theorem cutB_flat : ∀ (l cur : List S28), l ≠ [] → (cutB cur l).flatten = cur ++ l
  | [], _, h => absurd rfl h
  | [x], cur, _ => by simp [cutB]
  | x :: y :: t, cur, _ => by
    unfold cutB
    split
    · rw [List.flatten_cons, cutB_flat (y :: t) [] (by simp)]; simp
    · rw [cutB_flat (y :: t) (cur ++ [x]) (by simp)]; simp
theorem cutB_pos (l : List S28) (h : l ≠ []) : 1 ≤ (cutB [] l).length := by
  cases hc : cutB [] l with
  | nil => have := cutB_flat l [] h; rw [hc] at this; simp at this; exact absurd this h
  | cons a b => simp
theorem cutB_length_le (l cur : List S28) : (cutB cur l).length ≤ l.length := by
  induction l generalizing cur with
  | nil => simp [cutB]
  | cons x t ih =>
    unfold cutB
    split
    · simp only [List.length_cons]; have := ih []; omega
    · simp only [List.length_cons]; have := ih (cur ++ [x]); omega
/-- What a block holds was laid out of the sorted entries: each chunk is a run of them. -/
theorem cutB_mem {l : List S28} {c : List S28} {x : S28} (hl : l ≠ []) (hc : c ∈ cutB [] l) (hx : x ∈ c) : x ∈ l := by
  have := cutB_flat l [] hl
  rw [List.nil_append] at this
  rw [← this]
  exact List.mem_flatten.2 ⟨c, hc, hx⟩
theorem cutB_sorted {l : List S28} {R : S28 → S28 → Prop} (hl : l ≠ []) (hs : l.Pairwise R) {c : List S28} (hc : c ∈ cutB [] l) : c.Pairwise R := by
  have := cutB_flat l [] hl
  rw [List.nil_append] at this
  rw [← this] at hs
  exact (List.pairwise_flatten.1 hs).1 c hc
theorem addAll_ok : ∀ (c : List S28) (s : St),c.Pairwise srtR → (∀ x ∈ c,okK x) → (s.rows = 0 ∨ ∀ x ∈ c,Op.bytesLess s.last.toList (keyS x).toList = true) → (addAll (c.map rowOf) (true,s)).1 = true
  | [], _, _, _, _ => rfl
  | x :: t, s, hp, ho, hs => by
    obtain ⟨h1, h2⟩ := List.pairwise_cons.1 hp
    have hb : addB s (rowOf x).f0 = true := by
      unfold addB
      rcases hs with h | h
      · rw [h]; rfl
      · rw [show Op.bytesLess s.last.toList (rowOf x).f0.toList = true from h x (List.mem_cons_self ..), Bool.or_true]
    rw [List.map_cons]
    unfold addAll
    simp only [if_true, hb]
    refine addAll_ok t _ h2 (fun y hy => ho y (List.mem_cons_of_mem _ hy)) (.inr (fun y hy => ?_))
    exact keyS_lt (ho x (List.mem_cons_self ..)) (ho y (List.mem_cons_of_mem _ hy)) (h1 y hy).1
theorem valS_le {e : S28} (h : okB e) : (valS e).size ≤ 2010 := by
  have h1 := valS_size h.2.1
  have h2 := put_length10 (n := e.f3.size) (by have := h.2.1; omega)
  have h3 := h.2.1
  have h4 := h.2.2
  omega
theorem keyS_le {e : S28} (h : okK e) : (keyS e).size ≤ 71 := by
  have := keyL_length (e := e)
  rw [keyS_size]
  have := h.2.2
  omega
theorem addTs_bounds : ∀ (c : List S28) (s : St),(∀ x ∈ c,okB x) → (addTs s (c.map rowOf)).b.length ≤ s.b.length + 2200 * c.length ∧ (addTs s (c.map rowOf)).p.length ≤ s.p.length + 4 * c.length ∧ (addTs s (c.map rowOf)).rows = s.rows + c.length
  | [], s, _ => by simp [addTs]
  | x :: t, s, h => by
    have hx := h x (List.mem_cons_self ..)
    have hk := keyS_le hx.1
    have hv := valS_le hx
    obtain ⟨a1, a2, a3, _⟩ := addT_bounds s (rowOf x).f0 (rowOf x).f1 (by show (keyS x).size < 1000000; omega) (by show (valS x).size < 1000000; omega)
    obtain ⟨b1, b2, b3⟩ := addTs_bounds t (addT s (rowOf x).f0 (rowOf x).f1) (fun y hy => h y (List.mem_cons_of_mem _ hy))
    have e0 : (rowOf x).f0.size ≤ 71 := hk
    have e1 : (rowOf x).f1.size ≤ 2010 := hv
    rw [List.map_cons]
    simp only [addTs, List.length_cons]
    omega
theorem blk_read {c : List S28} (hs : c.Pairwise srtR) (ho : ∀ x ∈ c, okB x) (hc : c.length ≤ 1000) : readS (blk c) = some (c.map rowOf) := by
  refine readS_out _ (fun r hr => ?_) (addAll_ok c St0 hs (fun x hx => (ho x hx).1) (.inl rfl)) ?_
  · obtain ⟨x, hx, rfl⟩ := List.mem_map.1 hr
    have hk := keyS_le (ho x hx).1
    have hv := valS_le (ho x hx)
    exact ⟨by show (keyS x).size ≤ 30000; omega, by show (valS x).size ≤ 30000; omega⟩
  · have := (addTs_bounds c St0 ho).2.1
    have e : St0.p.length = 0 := rfl
    omega
end Go.Proofs.Ytenmljkddhonmaa.MTbl

namespace Go.Proofs.Ytenmljkddhonmaa.MTbl
open Go.RowKit Go.Proofs.Ytenmljkddhonmaa.QTbl Go.Proofs.YtenmljkddhonmaaW.PrintWords Go.Proofs.YtenmljkddhonmaaW.PrintLast Go.Proofs.YtenmljkddhonmaaW.PrintMore
set_option linter.unusedVariables false
set_option linter.unusedSimpArgs false
/-! PURE: a block's length, and that it is of bytes -/
theorem addTs_app : ∀ (a b : List S136) (s : St), addTs s (a ++ b) = addTs (addTs s a) b
  | [], _, _ => rfl
  | x :: t, b, s => by rw [List.cons_append]; simp only [addTs]; exact addTs_app t b _
theorem stOf_snoc (c : List S28) (x : S28) : stOf (c ++ [x]) = addT (stOf c) (keyS x) (valS x) := by
  unfold stOf
  rw [List.map_append, addTs_app]; rfl
theorem szB_snoc {c : List S28} {x : S28} (hx : okB x) : szB (stOf (c ++ [x])) ≤ szB (stOf c) + 2200 := by
  rw [stOf_snoc]
  have hk := keyS_le hx.1
  have hv := valS_le hx
  obtain ⟨a1, a2, _, _⟩ := addT_bounds (stOf c) (keyS x) (valS x) (by omega) (by omega)
  unfold szB
  omega
theorem cutB_size : ∀ (l cur : List S28), (∀ x ∈ l, okB x) → szB (stOf cur) < 200 → ∀ c ∈ cutB cur l, szB (stOf c) < 2400
  | [], _, _, _, c, h => by simp [cutB] at h
  | x :: t, cur, ho, hs, c, h => by
    have hx := ho x (List.mem_cons_self ..)
    have ht : ∀ y ∈ t, okB y := fun y hy => ho y (List.mem_cons_of_mem _ hy)
    have h0 : szB (stOf []) < 200 := by show 0 + 0 + 4 < 200; decide
    unfold cutB at h
    split at h
    · rcases List.mem_cons.1 h with rfl | h
      · have := szB_snoc (c := cur) hx; omega
      · exact cutB_size t [] ht h0 c h
    · next hn =>
      exact cutB_size t (cur ++ [x]) ht (by omega) c h
theorem blk_length {l c : List S28} (ho : ∀ x ∈ l, okB x) (hc : c ∈ cutB [] l) : (blk c).length < 2400 := by
  unfold blk
  rw [out_length]
  exact cutB_size l [] ho (by show 0 + 0 + 4 < 200; decide) c hc
theorem addTs_bytes : ∀ (c : List S28) (s : St), (∀ x ∈ c, okB x) → Bytes s.b → Bytes s.p → Bytes (addTs s (c.map rowOf)).b ∧ Bytes (addTs s (c.map rowOf)).p
  | [], s, _, h1, h2 => ⟨h1, h2⟩
  | x :: t, s, ho, h1, h2 => by
    have hx := ho x (List.mem_cons_self ..)
    have hk := keyS_le hx.1
    have hv := valS_le hx
    rw [List.map_cons]
    simp only [addTs]
    have hsh : s.sh (keyS x) ≤ 71 := by
      unfold St.sh
      split
      · omega
      · have := (cpl_le (bytesOf s.last) (bytesOf (keyS x))).2
        rw [bytesOf_length] at this; omega
    refine addTs_bytes t _ (fun y hy => ho y (List.mem_cons_of_mem _ hy)) ?_ ?_
    · show Bytes (s.b ++ (put (s.sh (keyS x)) ++ put ((keyS x).size - s.sh (keyS x)) ++ put (valS x).size) ++ (bytesOf (keyS x)).drop (s.sh (keyS x)) ++ bytesOf (valS x))
      exact Bytes.append (Bytes.append (Bytes.append h1 (Bytes.append (Bytes.append (put_bytes (by omega)) (put_bytes (by omega))) (put_bytes (by omega)))) ((bytesOf_bytes _).drop _)) (bytesOf_bytes _)
    · show Bytes (if s.rows % 4 = 0 then s.p ++ fix s.b.length 4 else s.p)
      split
      · exact Bytes.append h2 (fix_bytes _ _)
      · exact h2
theorem blk_bytes {c : List S28} (ho : ∀ x ∈ c, okB x) : Bytes (blk c) := by
  obtain ⟨h1, h2⟩ := addTs_bytes c St0 ho (by intro c hc; cases hc) (by intro c hc; cases hc)
  unfold blk stOf
  show Bytes (_ ++ _ ++ fix _ 4)
  exact Bytes.append (Bytes.append h1 h2) (fix_bytes _ _)
end Go.Proofs.Ytenmljkddhonmaa.MTbl

namespace Go.Proofs.Ytenmljkddhonmaa.QCrc
open Go.RowKit Go.Proofs.Ytenmljkddhonmaa.MTbl Go.Proofs.Ytenmljkddhonmaa.QTbl Go.Proofs.YtenmljkddhonmaaW.PrintWords Go.Proofs.YtenmljkddhonmaaW.PrintLast Go.Proofs.YtenmljkddhonmaaW.PrintMore
set_option linter.unusedVariables false
set_option linter.unusedSimpArgs false
theorem bits_xor_nat (k : IntKind) (hk : ∀ n : Int, 0 ≤ n → n < 2 ^ k.bits → k.wrap n = n) (a b : Nat) (ha : a < 2 ^ k.bits) (hb : b < 2 ^ k.bits) : Go.bits .xor k a b = ((a ^^^ b : Nat) : Int) := by
  have ha' : a % 2 ^ k.bits = a := Nat.mod_eq_of_lt ha
  have hb' : b % 2 ^ k.bits = b := Nat.mod_eq_of_lt hb
  simp only [Go.bits, BitVec.ofInt_natCast, BitVec.toNat_xor, BitVec.toNat_ofNat, ha', hb']
  exact hk _ (Int.natCast_nonneg _) (by exact_mod_cast Nat.xor_lt_two_pow ha hb)
theorem u32w (n : Int) (h0 : 0 ≤ n) (h1 : n < 2 ^ 32) : IntKind.u32.wrap n = n := by rw [IntKind.wrap_u32]; omega
theorem xor32 {a b : Nat} (ha : a < 4294967296) (hb : b < 4294967296) : Go.bits .xor .u32 (a : Int) (b : Int) = ((a ^^^ b : Nat) : Int) := bits_xor_nat .u32 u32w a b ha hb
theorem and32 {a b : Nat} (ha : a < 4294967296) (hb : b < 4294967296) : Go.bits .and .u32 (a : Int) (b : Int) = ((a &&& b : Nat) : Int) := (bits_nat .u32 32 (by decide) u32w a b ha hb).1
theorem xor_lt {a b : Nat} (ha : a < 4294967296) (hb : b < 4294967296) : a ^^^ b < 4294967296 := Nat.xor_lt_two_pow (n := 32) ha hb

def poly : Nat := 2197175160
/-- One bit of the sum. -/
def sb (x : Nat) : Nat := (x / 2) ^^^ (if x % 2 = 1 then poly else 0)
theorem sb_lt {x : Nat} (h : x < 4294967296) : sb x < 4294967296 := by
  unfold sb; refine xor_lt (by omega) ?_
  split <;> decide

theorem sb_mine {x : Nat} (h : x < 4294967296) : Go.bits .xor .u32 ((x : Int) / 2) (Go.bits .and .u32 2197175160 ((-(Go.bits .and .u32 (x : Int) 1)) % 4294967296)) = (sb x : Int) := by
  have e1 : Go.bits .and .u32 (x : Int) 1 = ((x % 2 : Nat) : Int) := by
    have := and32 (b := 1) h (by decide)
    rw [Nat.and_one_is_mod] at this
    exact this
  rw [e1, show ((x : Int) / 2) = ((x / 2 : Nat) : Int) by omega]
  unfold sb
  by_cases hp : x % 2 = 1
  · rw [if_pos hp, hp, show ((-((1 : Nat) : Int)) % 4294967296) = ((4294967295 : Nat) : Int) by decide]
    have := and32 (a := 2197175160) (b := 4294967295) (by decide) (by decide)
    rw [show ((2197175160 : Nat) : Int) = 2197175160 by omega] at this
    rw [this, xor32 (by omega) (by decide)]
    rfl
  · rw [if_neg hp, show x % 2 = 0 by omega, show ((-((0 : Nat) : Int)) % 4294967296) = ((0 : Nat) : Int) by decide]
    have := and32 (a := 2197175160) (b := 0) (by decide) (by decide)
    rw [show ((2197175160 : Nat) : Int) = 2197175160 by omega] at this
    rw [this, xor32 (by omega) (by decide)]
    rfl

def it : Nat → Nat → Nat
  | 0, x => x
  | n + 1, x => it n (sb x)
theorem it_lt : ∀ (n : Nat) {x : Nat}, x < 4294967296 → it n x < 4294967296
  | 0, _, h => h
  | n + 1, _, h => it_lt n (sb_lt h)

/-- The sum's state, with bytes behind it. -/
def fold (s : Nat) (l : List Int) : Nat := l.foldl (fun s v => it 8 (s ^^^ v.toNat)) s
theorem fold_lt : ∀ (l : List Int) {s : Nat}, Bytes l → s < 4294967296 → fold s l < 4294967296
  | [], _, _, h => h
  | c :: t, s, hb, h => by
    have hc := hb c (List.mem_cons_self ..)
    exact fold_lt t (fun x hx => hb x (List.mem_cons_of_mem _ hx)) (it_lt 8 (xor_lt h (by omega)))
theorem drop_getD (l : List Int) (i : Nat) (h : i < l.length) : l.drop i = l.getD i 0 :: l.drop (i + 1) := by
  rw [List.drop_eq_getElem_cons h, List.getD_eq_getElem?_getD, List.getElem?_eq_getElem h]; rfl

def neg (s : Nat) : Nat := 4294967295 ^^^ s
theorem neg_def (s : Nat) : neg s = 4294967295 ^^^ s := rfl
theorem neg_lt {s : Nat} (h : s < 4294967296) : neg s < 4294967296 := by rw [neg_def]; exact xor_lt (by omega) h
theorem fold_nil (s : Nat) : fold s [] = s := rfl
theorem neg_int {s : Nat} (h : s < 4294967296) : Go.bits .xor .u32 4294967295 (s : Int) = (neg s : Int) := by
  have := xor32 (a := 4294967295) (by omega) h
  rw [show ((4294967295 : Nat) : Int) = 4294967295 by omega] at this
  rw [neg_def]; exact this

theorem More_l0 (l : List Int) (hb : Bytes l) (hl : l.length ≤ 4611686018427387904) (d : Nat) : ∀ (i s : Nat), l.length - i = d → i ≤ l.length → s < 4294967296 → Ev (fun k => crc_More.l0 k (s : Int) l (l.length : Int) (i : Int)) (neg (fold s (l.drop i)) : Int) := by
  induction d with
  | zero =>
    intro i s hd hi hs
    refine Ev.succ ?_
    simp only [crc_More.l0]
    refine Ev.ite_neg (by omega) ?_
    rw [List.drop_of_length_le (by omega)]
    rw [fold_nil, neg_int hs]
    exact Ev.now _
  | succ d ih =>
    intro i s hd hi hs
    have hlt : i < l.length := by omega
    have hg := hb.getD i
    refine Ev.succ ?_
    simp only [crc_More.l0]
    refine Ev.ite_pos (by omega) (Ev.ite_pos (by omega) (Ev.ite_pos (by omega) ?_))
    rw [rd_nat, drop_getD l i hlt]
    generalize l.getD i 0 = c at *
    obtain ⟨v, rfl⟩ := Int.eq_ofNat_of_zero_le hg.1
    rw [show (v : Int) % 4294967296 = ((v : Nat) : Int) by omega, xor32 hs (by omega)]
    have hin : ∀ (m j x : Nat), m + j = 8 → x < 4294967296 → it m x = it 8 (s ^^^ v) → Ev (fun k => crc_More.l1 k (x : Int) l (l.length : Int) (i : Int) (j : Int)) (neg (fold (it 8 (s ^^^ v)) (l.drop (i + 1))) : Int) := by
      intro m
      induction m with
      | zero =>
        intro j x hj hx e
        refine Ev.succ ?_
        simp only [crc_More.l1]
        refine Ev.ite_neg (by omega) ?_
        rw [wrap64_id (by omega) (by omega), ← e]
        exact ih (i + 1) x (by omega) (by omega) hx
      | succ m ihm =>
        intro j x hj hx e
        refine Ev.succ ?_
        simp only [crc_More.l1]
        refine Ev.ite_pos (by omega) ?_
        rw [wrap64_id (by omega) (by omega), sb_mine hx]
        exact ihm (j + 1) (sb x) (by omega) (sb_lt hx) e
    exact hin 8 0 (s ^^^ v) rfl (xor_lt hs (by omega)) rfl

theorem More_ev {l : List Int} (hb : Bytes l) (hl : l.length ≤ 4611686018427387904) {c : Nat} (hc : c < 4294967296) : Ev (fun k => crc_More.f k (c : Int) l) (neg (fold (neg c) l) : Int) := by
  have := More_l0 l hb hl _ 0 (neg c) rfl (by omega) (neg_lt hc)
  unfold crc_More.f
  rw [neg_int hc]
  exact this

def sum (l : List Int) : Nat := neg (fold 4294967295 l)
theorem Sum_ev {l : List Int} (hb : Bytes l) (hl : l.length ≤ 4611686018427387904) : Ev (fun k => crc_Sum.f k l) (sum l : Int) := by
  have := More_ev hb hl (c := 0) (by decide)
  unfold crc_Sum.f
  exact Ev.bind this (Ev.now _)
theorem sum_lt {l : List Int} (hb : Bytes l) : sum l < 4294967296 := neg_lt (fold_lt l hb (by decide))

/-- Two equal lists of changes differ by a word that goes through the bits. -/
def word : List Nat → Nat
  | [] => 0
  | x :: t => x ^^^ (word t * 256)

/-- The differences of the states, change for change. -/
def diff (d : Nat) (xs : List Nat) : Nat := xs.foldl (fun d x => it 8 (d ^^^ x)) d
/-- The bytes xs changed by ys. -/
def turn : List Int → List Nat → List Int
  | c :: t, y :: r => ((c.toNat ^^^ y : Nat) : Int) :: turn t r
  | l, [] => l
  | [], _ => []

end Go.Proofs.Ytenmljkddhonmaa.QCrc

namespace Go.Proofs.Ytenmljkddhonmaa.MTbl
open Go.RowKit Go.Proofs.Ytenmljkddhonmaa.QTbl Go.Proofs.YtenmljkddhonmaaW.PrintWords Go.Proofs.YtenmljkddhonmaaW.PrintLast Go.Proofs.YtenmljkddhonmaaW.PrintMore
set_option linter.unusedVariables false
set_option linter.unusedSimpArgs false
/-! PURE: a table's bytes -/
theorem Put64_ev {n : Nat} (h : n < 18446744073709551616) : Ev (fun k => varint_Put64.f k (n : Int)) (fix n 8) := by
  unfold varint_Put64.f
  exact Ev.bind (fixed_ev n 8 (by omega)) (Ev.now _)
theorem Get64_ev {l : List Int} (hb : Bytes l) (hl : 8 ≤ l.length) : Ev (fun k => varint_Get64.f k l) (val256 (l.take 8) : Int) := by
  unfold varint_Get64.f
  exact Ev.bind (read_ev (m := 8) (by omega) hb hl) (Ev.now _)
def rowsB (l : List S28) : List Int := (cutB [] l).flatMap blk
def sizesB (l : List S28) : List Int := (cutB [] l).flatMap (fun c => put (blk c).length)
def tailB (l : List S28) (flt : List Int) : List Int := put (cutB [] l).length ++ sizesB l ++ flt
def bodyB (l : List S28) (flt : List Int) : List Int := fix (8 + (rowsB l).length + (tailB l flt).length + 12) 8 ++ rowsB l ++ tailB l flt ++ fix (tailB l flt).length 4
def tblB (l : List S28) (flt : List Int) : List Int := bodyB l flt ++ fix (QCrc.sum (bodyB l flt)) 4 ++ fix 1768842089 4
theorem bodyB_length (l : List S28) (flt : List Int) : (bodyB l flt).length = 8 + (rowsB l).length + (tailB l flt).length + 4 := by
  unfold bodyB
  simp only [List.length_append, fix_length]
theorem tblB_length (l : List S28) (flt : List Int) : (tblB l flt).length = 8 + (rowsB l).length + (tailB l flt).length + 12 := by
  unfold tblB
  simp only [List.length_append, fix_length, bodyB_length]
theorem flatMap_length_le {α : Type} (f : α → List Int) (m : Nat) : ∀ (L : List α), (∀ c ∈ L, (f c).length ≤ m) → (L.flatMap f).length ≤ L.length * m
  | [], _ => by simp
  | c :: t, h => by
    have ih := flatMap_length_le f m t (fun d hd => h d (List.mem_cons_of_mem _ hd))
    have hc := h c (List.mem_cons_self ..)
    rw [List.flatMap_cons, List.length_append, List.length_cons, Nat.succ_mul]
    omega
theorem Bytes.flatMap {α : Type} (f : α → List Int) : ∀ (L : List α), (∀ c ∈ L, Bytes (f c)) → Bytes (L.flatMap f)
  | [], _ => by intro c hc; cases hc
  | c :: t, h => by
    rw [List.flatMap_cons]
    exact Bytes.append (h c (List.mem_cons_self ..)) (Bytes.flatMap f t (fun d hd => h d (List.mem_cons_of_mem _ hd)))
theorem rowsB_length {l : List S28} (hl : l.length ≤ 1000) (ho : ∀ x ∈ l, okB x) : (rowsB l).length ≤ 2400000 := by
  have h1 := flatMap_length_le blk 2400 (cutB [] l) (fun c hc => Nat.le_of_lt (blk_length ho hc))
  have h2 := cutB_length_le l []
  have h3 := Nat.mul_le_mul_right 2400 (Nat.le_trans h2 hl)
  unfold rowsB
  omega
theorem tblB_bytes {l : List S28} {flt : List Int} (hl : l ≠ []) (hl2 : l.length ≤ 1000) (ho : ∀ x ∈ l, okB x) (hf : Bytes flt) : Bytes (bodyB l flt) ∧ Bytes (tblB l flt) := by
  have h0 : Bytes (rowsB l) := Bytes.flatMap _ _ (fun c hc => blk_bytes (fun x hx => ho x (cutB_mem hl hc hx)))
  have h1 : Bytes (sizesB l) := Bytes.flatMap _ _ (fun c hc => put_bytes (by have := blk_length ho hc; omega))
  have h2 := cutB_length_le l []
  have h3 : Bytes (tailB l flt) := Bytes.append (Bytes.append (put_bytes (by omega)) h1) hf
  have h4 : Bytes (bodyB l flt) := Bytes.append (Bytes.append (Bytes.append (fix_bytes _ _) h0) h3) (fix_bytes _ _)
  exact ⟨h4, Bytes.append (Bytes.append h4 (fix_bytes _ _)) (fix_bytes _ _)⟩
end Go.Proofs.Ytenmljkddhonmaa.MTbl

namespace Go.Proofs.Ytenmljkddhonmaa.MTbl
open Go.RowKit Go.Proofs.Ytenmljkddhonmaa.QTbl Go.Proofs.YtenmljkddhonmaaW.PrintWords Go.Proofs.YtenmljkddhonmaaW.PrintLast Go.Proofs.YtenmljkddhonmaaW.PrintMore
set_option linter.unusedVariables false
set_option linter.unusedSimpArgs false
/-! PURE: what Open asks first -/
/-- The length's field, the mark and the sum are right. -/
def firstOK (b : List Int) : Prop := 20 ≤ b.length ∧ val256 (b.take 8) = b.length ∧ val256 ((b.drop (b.length - 4)).take 4) = 1768842089 ∧ val256 ((b.drop (b.length - 8)).take 4) = QCrc.sum (b.take (b.length - 8))
theorem tblB_body (l : List S28) (flt : List Int) : (tblB l flt).take ((tblB l flt).length - 8) = bodyB l flt := by
  rw [tblB_length]
  unfold tblB
  rw [List.append_assoc]
  exact List.take_left' (by rw [bodyB_length]; omega)
theorem tblB_sum (l : List S28) (flt : List Int) : (tblB l flt).drop ((tblB l flt).length - 8) = fix (QCrc.sum (bodyB l flt)) 4 ++ fix 1768842089 4 := by
  rw [tblB_length]
  unfold tblB
  rw [List.append_assoc]
  exact List.drop_left' (by rw [bodyB_length]; omega)
theorem tblB_mark (l : List S28) (flt : List Int) : (tblB l flt).drop ((tblB l flt).length - 4) = fix 1768842089 4 := by
  rw [tblB_length]
  unfold tblB
  exact List.drop_left' (by rw [List.length_append, bodyB_length, fix_length]; omega)
theorem tblB_head (l : List S28) (flt : List Int) : (tblB l flt).take 8 = fix (tblB l flt).length 8 := by
  rw [tblB_length]
  unfold tblB bodyB
  simp only [List.append_assoc]
  exact List.take_left' (by rw [fix_length])
theorem tblB_first {l : List S28} {flt : List Int} (hb : Bytes (bodyB l flt)) (hl : (tblB l flt).length < 4294967296) : firstOK (tblB l flt) := by
  refine ⟨by rw [tblB_length]; omega, ?_, ?_, ?_⟩
  · rw [tblB_head, val256_fix]
    exact Nat.mod_eq_of_lt (by omega)
  · rw [tblB_mark, List.take_of_length_le (by rw [fix_length]; omega), val256_fix]
  · rw [tblB_sum, tblB_body, List.take_left' (by rw [fix_length]), val256_fix]
    have := QCrc.sum_lt hb
    exact Nat.mod_eq_of_lt (by omega)
end Go.Proofs.Ytenmljkddhonmaa.MTbl

namespace Go.Proofs.Ytenmljkddhonmaa.MTbl
open Go.RowKit Go.Proofs.Ytenmljkddhonmaa.QTbl Go.Proofs.YtenmljkddhonmaaW.PrintWords Go.Proofs.YtenmljkddhonmaaW.PrintLast Go.Proofs.YtenmljkddhonmaaW.PrintMore
set_option linter.unusedVariables false
set_option linter.unusedSimpArgs false
/-! PURE: a changed byte is seen by what Open asks first -/
end Go.Proofs.Ytenmljkddhonmaa.MTbl

namespace Go.Proofs.Ytenmljkddhonmaa.MTbl
open Go.RowKit Go.Proofs.Ytenmljkddhonmaa.QTbl Go.Proofs.YtenmljkddhonmaaW.PrintWords Go.Proofs.YtenmljkddhonmaaW.PrintLast Go.Proofs.YtenmljkddhonmaaW.PrintMore
set_option linter.unusedVariables false
set_option linter.unusedSimpArgs false
set_option maxHeartbeats 2000000 in
set_option maxRecDepth 1000000 in
theorem table_Open_short.calls (A0 : Option Addr) (c0 : Nat) (b : List Int) (w : World) (hl : b.length < 20) :
    Calls Try.prog 23 #[.slice A0 b.length c0] w fun e w' => e = .returned (.tuple #[.pointer none, .int .i64 8]) ∧ Below w.heap.size w w' := by
  have p1 : ((b.length : Int) < 20) = True := eq_true (by omega)
  go_enter Try.func23, Try.ntmps23
  go_wp2
  go_region
  go_wp2
  go_ret2
  exact ⟨rfl, by repeat (first | exact Below.refl _ _ | apply below_alloc | apply pw_below_drewN | apply below_drew1)⟩
end Go.Proofs.Ytenmljkddhonmaa.MTbl

namespace Go.Proofs.Ytenmljkddhonmaa.MTbl
open Go.RowKit Go.Proofs.Ytenmljkddhonmaa.QTbl Go.Proofs.YtenmljkddhonmaaW.PrintWords Go.Proofs.YtenmljkddhonmaaW.PrintLast Go.Proofs.YtenmljkddhonmaaW.PrintMore
set_option linter.unusedVariables false
set_option linter.unusedSimpArgs false
theorem C_dropN {w : World} {A : Option Addr} {c m : Nat} {xs : List Int} (h : Kd.C (Kd.int .u8) w A xs.length xs) (hm : m < xs.length) (hc : xs.length ≤ c) : Kd.C (Kd.int .u8) w (Option.map (fun x => x.add m) A) (xs.drop m).length (xs.drop m) ∧ (xs.drop m).length ≤ c - m ∧ xs.length - m = (xs.drop m).length := by
  have h2 := Kd.C_drop (m := m) (c := c) h (by omega) hc
  rw [if_neg (by omega)] at h2
  have hsz1 : (Kd.int .u8).sz = 1 := rfl
  simp only [hsz1, Nat.mul_one] at h2
  exact ⟨h2, by rw [List.length_drop]; omega, by rw [List.length_drop]⟩
set_option maxHeartbeats 2000000 in
set_option maxRecDepth 1000000 in
theorem table_Open_long.calls (A0 : Option Addr) (c0 : Nat) (b : List Int) (w : World) (hr : Kd.C (Kd.int .u8) w A0 b.length b) (hc : b.length ≤ c0) (hl : 20 ≤ b.length) (hl2 : b.length < 4294967296) (hb : Bytes b) (hne : val256 (b.take 8) ≠ b.length) :
    Calls Try.prog 23 #[.slice A0 b.length c0] w fun e w' => e = .returned (.tuple #[.pointer none, .int .i64 8]) ∧ Below w.heap.size w w' := by
  have p1 : ((b.length : Int) < 20) = False := eq_false (by omega)
  obtain ⟨K, hK⟩ := Get64_ev hb (by omega)
  have HK := Aside0.mk (hK K (Nat.le_refl _))
  have HR := Aside0.mk hr
  obtain ⟨n, hn⟩ : ∃ n, n = val256 (b.take 8) := ⟨_, rfl⟩
  rw [← hn] at HK hne
  have hwr : IntKind.u64.wrap (b.length : Int) = (b.length : Int) := u64_id (by omega) (by omega)
  have hnb : (((n : Nat) : Int) != (b.length : Int)) = true := bne_iff_ne.2 (by omega)
  clear hr hK hn
  go_enter Try.func23, Try.ntmps23
  go_wp2
  go_quiet (first
    | (go_at_call 54;refine Calls.quiet_of (v := .int .u64 (n : Int)) ((varint_Get64.calls K A0 c0 b n _ ?hC hc HK.out).mono ?_);(case hC => exact Kd.C_drewN HR.out _);rintro e w' ⟨rfl,hd⟩;exact ⟨rfl,hd.out⟩))
  go_wp2
  go_ret2
  exact ⟨rfl, by repeat (first | exact Below.refl _ _ | apply below_alloc | apply pw_below_drewN | apply below_drew1)⟩
set_option maxHeartbeats 2000000 in
set_option maxRecDepth 1000000 in
theorem table_Open_mark.calls (A0 : Option Addr) (c0 : Nat) (b : List Int) (w : World) (hr : Kd.C (Kd.int .u8) w A0 b.length b) (hc : b.length ≤ c0) (hl : 20 ≤ b.length) (hl2 : b.length < 4294967296) (hb : Bytes b) (hq : val256 (b.take 8) = b.length) (hne : val256 ((b.drop (b.length - 4)).take 4) ≠ 1768842089) :
    Calls Try.prog 23 #[.slice A0 b.length c0] w fun e w' => e = .returned (.tuple #[.pointer none, .int .i64 8]) ∧ Below w.heap.size w w' := by
  have p1 : ((b.length : Int) < 20) = False := eq_false (by omega)
  obtain ⟨K, hK⟩ := Get64_ev hb (by omega)
  have HK := Aside0.mk (hK K (Nat.le_refl _))
  rw [hq] at HK
  obtain ⟨K4, hK4⟩ := Get32_ev (l := b.drop (b.length - 4)) (hb.drop _) (by rw [List.length_drop]; omega)
  have HK4 := Aside0.mk (hK4 K4 (Nat.le_refl _))
  have HR := Aside0.mk hr
  have hwr : IntKind.u64.wrap (b.length : Int) = (b.length : Int) := u64_id (by omega) (by omega)
  have hnb : (((b.length : Nat) : Int) != (b.length : Int)) = false := by simp
  obtain ⟨hC4, xc4, xy4⟩ := C_dropN hr (m := b.length - 4) (by omega) hc
  have HC4 := Aside0.mk hC4
  have hc4 := Aside0.mk xc4
  have hy4 := Aside0.mk xy4
  clear hC4 xc4 xy4
  obtain ⟨m, hm⟩ : ∃ m, m = val256 ((b.drop (b.length - 4)).take 4) := ⟨_, rfl⟩
  rw [← hm] at HK4 hne
  have hmb : (((m : Nat) : Int) != 1768842089) = true := bne_iff_ne.2 (by omega)
  clear hr hK hK4 hm
  go_enter Try.func23, Try.ntmps23
  go_wp2
  go_quiet (first
    | (go_at_call 54;refine Calls.quiet_of (v := .int .u64 (b.length : Int)) ((varint_Get64.calls K A0 c0 b b.length _ ?hC hc HK.out).mono ?_);(case hC => exact Kd.C_drewN HR.out _);rintro e w' ⟨rfl,hd⟩;exact ⟨rfl,hd.out⟩)
    | (go_at_call 55;rw [hy4.out];refine Calls.quiet_of (v := .int .u32 (m : Int)) ((varint_Get32.calls K4 _ _ (b.drop (b.length - 4)) m _ ?hC hc4.out HK4.out).mono ?_);(case hC => exact Kd.C_drewN HC4.out _);rintro e w' ⟨rfl,hd⟩;exact ⟨rfl,hd.out⟩))
  go_wp2
  go_ret2
  exact ⟨rfl, by repeat (first | exact Below.refl _ _ | apply below_alloc | apply pw_below_drewN | apply below_drew1)⟩
set_option maxHeartbeats 2000000 in
set_option maxRecDepth 1000000 in
theorem table_Open_sum.calls (A0 : Option Addr) (c0 : Nat) (b : List Int) (w : World) (hr : Kd.C (Kd.int .u8) w A0 b.length b) (hc : b.length ≤ c0) (hl : 20 ≤ b.length) (hl2 : b.length < 4294967296) (hb : Bytes b) (hq : val256 (b.take 8) = b.length) (h4 : val256 ((b.drop (b.length - 4)).take 4) = 1768842089) (hne : val256 ((b.drop (b.length - 8)).take 4) ≠ QCrc.sum (b.take (b.length - 8))) :
    Calls Try.prog 23 #[.slice A0 b.length c0] w fun e w' => e = .returned (.tuple #[.pointer none, .int .i64 8]) ∧ Below w.heap.size w w' := by
  have p1 : ((b.length : Int) < 20) = False := eq_false (by omega)
  obtain ⟨K, hK⟩ := Get64_ev hb (by omega)
  have HK := Aside0.mk (hK K (Nat.le_refl _))
  rw [hq] at HK
  obtain ⟨K4, hK4⟩ := Get32_ev (l := b.drop (b.length - 4)) (hb.drop _) (by rw [List.length_drop]; omega)
  have HK4 := Aside0.mk (hK4 K4 (Nat.le_refl _))
  have HR := Aside0.mk hr
  have hwr : IntKind.u64.wrap (b.length : Int) = (b.length : Int) := u64_id (by omega) (by omega)
  have hnb : (((b.length : Nat) : Int) != (b.length : Int)) = false := by simp
  obtain ⟨hC4, xc4, xy4⟩ := C_dropN hr (m := b.length - 4) (by omega) hc
  have HC4 := Aside0.mk hC4
  have hc4 := Aside0.mk xc4
  have hy4 := Aside0.mk xy4
  clear hC4 xc4 xy4
  rw [h4] at HK4
  obtain ⟨m, hm⟩ : ∃ m, m = val256 ((b.drop (b.length - 8)).take 4) := ⟨_, rfl⟩
  obtain ⟨s, hs⟩ : ∃ s, s = QCrc.sum (b.take (b.length - 8)) := ⟨_, rfl⟩
  obtain ⟨K8, hK8⟩ := Get32_ev (l := b.drop (b.length - 8)) (hb.drop _) (by rw [List.length_drop]; omega)
  have HK8 := Aside0.mk (hK8 K8 (Nat.le_refl _))
  obtain ⟨KS, hKS⟩ := QCrc.Sum_ev (l := b.take (b.length - 8)) (hb.take _) (by rw [List.length_take]; omega)
  have HKS := Aside0.mk (hKS KS (Nat.le_refl _))
  rw [← hm] at HK8 hne
  rw [← hs] at HKS hne
  obtain ⟨hC8, xc8, xy8⟩ := C_dropN hr (m := b.length - 8) (by omega) hc
  have HC8 := Aside0.mk hC8
  have hc8 := Aside0.mk xc8
  have hy8 := Aside0.mk xy8
  clear hC8 xc8 xy8
  have hyS : Aside0 (b.length - 8 = (b.take (b.length - 8)).length) := ⟨by rw [List.length_take]; omega⟩
  have HCS : Aside0 (Kd.C (Kd.int .u8) w A0 (b.take (b.length - 8)).length (b.take (b.length - 8))) := ⟨by rw [← hyS.out]; exact (C_takeI hr (m := b.length - 8) (by omega) hc).2⟩
  have hcS : Aside0 ((b.take (b.length - 8)).length ≤ c0) := ⟨by rw [List.length_take]; omega⟩
  have hmb : (((m : Nat) : Int) != (s : Int)) = true := bne_iff_ne.2 (by omega)
  clear hr hK hK4 hm hs hK8 hKS h4
  go_enter Try.func23, Try.ntmps23
  go_wp2
  go_quiet (first
    | (go_at_call 54;refine Calls.quiet_of (v := .int .u64 (b.length : Int)) ((varint_Get64.calls K A0 c0 b b.length _ ?hC hc HK.out).mono ?_);(case hC => exact Kd.C_drewN HR.out _);rintro e w' ⟨rfl,hd⟩;exact ⟨rfl,hd.out⟩)
    | (go_at_call 55;rw [hy4.out];refine Calls.quiet_of (v := .int .u32 (1768842089 : Int)) ((varint_Get32.calls K4 _ _ (b.drop (b.length - 4)) 1768842089 _ ?hC hc4.out HK4.out).mono ?_);(case hC => exact Kd.C_drewN HC4.out _);rintro e w' ⟨rfl,hd⟩;exact ⟨rfl,hd.out⟩)
    | (go_at_call 55;rw [hy8.out];refine Calls.quiet_of (v := .int .u32 (m : Int)) ((varint_Get32.calls K8 _ _ (b.drop (b.length - 8)) m _ ?hC hc8.out HK8.out).mono ?_);(case hC => exact Kd.C_drewN HC8.out _);rintro e w' ⟨rfl,hd⟩;exact ⟨rfl,hd.out⟩)
    | (go_at_call 53;rw [hyS.out];refine Calls.quiet_of (v := .int .u32 (s : Int)) ((crc_Sum.calls KS _ _ (b.take (b.length - 8)) s _ ?hC hcS.out HKS.out).mono ?_);(case hC => exact Kd.C_drewN HCS.out _);rintro e w' ⟨rfl,hd⟩;exact ⟨rfl,hd.out⟩))
  go_wp2
  go_ret2
  exact ⟨rfl, by repeat (first | exact Below.refl _ _ | apply below_alloc | apply pw_below_drewN | apply below_drew1)⟩
/-- What fails the first check is refused. -/
theorem table_Open_bad.calls (A0 : Option Addr) (c0 : Nat) (b : List Int) (w : World) (hr : Kd.C (Kd.int .u8) w A0 b.length b) (hc : b.length ≤ c0) (hl2 : b.length < 4294967296) (hb : Bytes b) (hn : ¬ firstOK b) :
    Calls Try.prog 23 #[.slice A0 b.length c0] w fun e w' => e = .returned (.tuple #[.pointer none, .int .i64 8]) ∧ Below w.heap.size w w' := by
  by_cases h1 : 20 ≤ b.length
  · by_cases h2 : val256 (b.take 8) = b.length
    · by_cases h3 : val256 ((b.drop (b.length - 4)).take 4) = 1768842089
      · by_cases h4 : val256 ((b.drop (b.length - 8)).take 4) = QCrc.sum (b.take (b.length - 8))
        · exact absurd ⟨h1, h2, h3, h4⟩ hn
        · exact table_Open_sum.calls A0 c0 b w hr hc h1 hl2 hb h2 h3 h4
      · exact table_Open_mark.calls A0 c0 b w hr hc h1 hl2 hb h2 h3
    · exact table_Open_long.calls A0 c0 b w hr hc h1 hl2 hb h2
  · exact table_Open_short.calls A0 c0 b w (by omega)
end Go.Proofs.Ytenmljkddhonmaa.MTbl

namespace Go.Proofs.Ytenmljkddhonmaa.MTbl
open Go.RowKit Go.Proofs.Ytenmljkddhonmaa.QTbl Go.Proofs.YtenmljkddhonmaaW.PrintWords Go.Proofs.YtenmljkddhonmaaW.PrintLast Go.Proofs.YtenmljkddhonmaaW.PrintMore
set_option linter.unusedVariables false
set_option linter.unusedSimpArgs false
/-- How many entries' forms stand ahead of a text. -/
def cntF (s : ByteArray) : List S28 → Nat
  | [] => 0
  | x :: t => if Op.bytesLess x.f0.toList s.toList = true then cntF s t + 1 else 0
theorem cntF_le (s : ByteArray) : ∀ l, cntF s l ≤ l.length
  | [] => Nat.le_refl _
  | x :: t => by unfold cntF; split <;> simp [cntF_le s t]
theorem srtR_le {x y : S28} (h : srtR x y) (s : ByteArray) (hy : Op.bytesLess y.f0.toList s.toList = true) : Op.bytesLess x.f0.toList s.toList = true := by
  have h1 := h.1
  unfold ltS lt3 at h1
  by_cases e : x.f0.toList = y.f0.toList
  · rw [e]; exact hy
  · rw [if_neg e] at h1; exact bl_trans _ _ _ h1 hy
theorem cntF_iff (s : ByteArray) : ∀ (l : List S28), l.Pairwise srtR → ∀ i (h : i < l.length), (Op.bytesLess l[i].f0.toList s.toList = true ↔ i < cntF s l)
  | [], _, i, h => by simp at h
  | x :: t, hl, i, h => by
    obtain ⟨h1, h2⟩ := List.pairwise_cons.1 hl
    unfold cntF
    by_cases c : Op.bytesLess x.f0.toList s.toList = true
    · rw [if_pos c]
      cases i with
      | zero => exact ⟨fun _ => Nat.succ_pos _, fun _ => c⟩
      | succ i =>
        have := cntF_iff s t h2 i (by simpa using h)
        rw [List.getElem_cons_succ, this]; omega
    · rw [if_neg c]
      cases i with
      | zero => exact ⟨fun z => absurd z c, fun z => by omega⟩
      | succ i => exact ⟨fun z => absurd (srtR_le (h1 _ (List.getElem_mem _)) s z) c, fun z => by omega⟩
theorem from_at (l : List S28) (s : ByteArray) (hs : l.Pairwise srtR) : bsearch (fromAt l s) l.length 0 l.length = cntF s l := by
  refine bsearch_eq _ _ l.length 0 l.length (by omega) (Nat.zero_le _) (cntF_le s l) (fun i _ hi => ?_)
  unfold fromAt
  rw [rd_T28_nat l i hi]
  have := cntF_iff s l hs i hi
  cases hb : Op.bytesLess l[i].f0.toList s.toList with
  | true => rw [hb] at this; have := this.1 rfl; simp; omega
  | false => rw [hb] at this; simp only [Bool.not_false, true_iff]; by_cases c : cntF s l ≤ i; exact c; exact absurd (this.2 (by omega)) (by simp)
theorem EqAll_self (l : List S28) (hl : l.length < 1000000) : Ev (fun k => incipitref12_EqAll.f k l l) true := by
  have h : ∀ (d i : Nat), l.length - i = d → Ev (fun k => incipitref12_EqAll.l0 k l l (i : Int)) true := by
    intro d
    induction d with
    | zero =>
      intro i hd
      refine Ev.succ ?_
      simp only [incipitref12_EqAll.l0]
      exact Ev.ite_neg (by omega) (Ev.now _)
    | succ d ih =>
      intro i hd
      refine Ev.succ ?_
      simp only [incipitref12_EqAll.l0]
      refine Ev.ite_pos (by omega) (Ev.ite_pos (by omega) (Ev.ite_pos (by omega) (Ev.bind (Ev.same (rEq_self _ _ _ _ _)) (Ev.ite_pos rfl ?_))))
      have := ih (i + 1) (by omega)
      rw [wrap64_id (n := (i : Int) + 1) (by omega) (by omega)]
      exact this
  unfold incipitref12_EqAll.f
  exact Ev.ite_pos rfl (h _ 0 rfl)
theorem C_cut28 {w : World} {A : Option Addr} {c m : Nat} {xs : List S28} (h : Kd.C k28 w A xs.length xs) (hm : m ≤ xs.length) (hc : xs.length ≤ c) : ∃ A1 c1,(∀ W : World,(Instr.slice 24 (.slice A xs.length c) (some (.int .i64 (m : Int))) none none).run Try.prog W = .ok (.slice A1 (xs.drop m).length c1) W) ∧ Kd.C k28 w A1 (xs.drop m).length (xs.drop m) ∧ (xs.drop m).length ≤ c1 := by
  obtain ⟨i0, hi0, _, hsz, _⟩ := info_parts info28
  have hcut := cut_from (P := Try.prog) 24 28 .i64 Try.underlying24 hi0 5 hsz A xs.length c m (by omega) (by omega)
  have hr := Kd.C_drop (m := m) (c := c) h hm hc
  have hsz1 : k28.sz = 5 := rfl
  have hy : (xs.drop m).length = xs.length - m := List.length_drop
  simp only [Int.toNat_natCast] at hcut
  rw [hsz1] at hr
  refine ⟨_, c - m, fun W => ?_, hr, ?_⟩
  · rw [hy]; exact hcut W
  · rw [hy]; omega
set_option maxHeartbeats 8000000 in
set_option maxRecDepth 1000000 in
theorem law_from.calls (w : World) (g : Nat) (l : List S28) (flt : List Int) (bl : Nat) (s : ByteArray) (A0 : Option Addr) (c0 : Nat) (hI : TabI w g l flt bl) (hl : l.length < 1000000) (hs : l.Pairwise srtR) (hr0 : Kd.C k28 w A0 l.length l) (hc0 : l.length ≤ c0) :
    Calls Try.prog 33 #[.pointer (some ⟨g, 0, none⟩), .slice A0 l.length c0, .string s] w fun e w' => e = .returned (.bool true) ∧ Below w.heap.size w w' := by
  have hu28 := Try.underlying28
  have hFr := table_From.calls w g l flt bl s hI (by omega)
  rw [from_at l s hs] at hFr
  have HG := Aside0.mk hFr
  have HS := Aside0.mk (cntF_iff s l hs)
  have HLE := cntF_le s l
  obtain ⟨K, hK⟩ := EqAll_self (l.drop (cntF s l)) (by rw [List.length_drop]; omega)
  have HK := Aside0.mk (hK K (Nat.le_refl _))
  have HR := Aside0.mk hr0
  obtain ⟨A1, c1, hcut, hC1, hc1⟩ := C_cut28 hr0 HLE hc0
  have HC1 := Aside0.mk hC1
  clear hI hr0 hFr hK hC1
  generalize cntF s l = n at HG HS HLE hcut HK HC1 hc1
  generalize hd : l.drop n = ld at *
  go_enter Try.func33, Try.ntmps33
  go_wp2_with (first | (go_at_call 28;refine HG.out.mono ?_;rintro e w1 ⟨v1,rfl,hv,hb⟩;obtain ⟨Av,cv,rfl⟩ := Kd.R_slice hv;have HV := Aside0.mk (Kd.R_reads' hv).2;have HB1 := Aside0.mk hb;clear hb hv))
  go_loopg [9] n (fun kx s9 wr => ∃ j : Nat, s9 = .int .i64 j ∧ j ≤ n ∧ n - j ≤ kx ∧ Aside0 (Below w1.heap.size w1 wr))
  case atStart => exact ⟨0, rfl, Nat.zero_le _, by omega, ⟨Below.refl _ _⟩⟩
  case round =>
    obtain ⟨j, rfl, hjn, hjk, HB⟩ := hrel
    have HRr := Aside0.mk (Kd.C_below (Kd.C_below HR.out HB1.out) HB.out)
    by_cases hj : j < l.length
    · obtain ⟨ad, rfl, h0, _, _, _, _⟩ := at_T28 HRr.out (j : Int) (by omega) (by omega)
      have p1 : ((0 : Int) ≤ (j : Int)) = True := eq_true (by omega)
      have p2 : ((j : Int) < (l.length : Int)) = True := eq_true (by omega)
      have p3 : (j < l.length) = True := eq_true hj
      have hlt := HS.out j hj
      rw [Int.toNat_natCast] at h0
      rw [rd_T28_nat l j hj] at h0
      generalize l[j].f0 = y at h0 hlt
      cases hy : Op.bytesLess y.toList s.toList with
      | true =>
        have hjn2 : j < n := hlt.1 hy
        cases gk with
        | zero => omega
        | succ k1 =>
        go_wp2
        go_roundg k1
        case measure => omega
        case rel => exact ⟨j + 1, by rw [Int.natCast_add]; rfl, by omega, by omega, HB⟩
      | false =>
        obtain rfl : j = n := by
          by_cases c : j < n
          · rw [hlt.2 c] at hy; cases hy
          · omega
        go_wp2_with (go_at_call 15;refine (incipitref12_EqAll.calls K Av cv ld A1 c1 ld true _ (Kd.C_below HV.out.2 HB.out) HV.out.1 (Kd.C_below (Kd.C_below HC1.out HB1.out) HB.out) hc1 HK.out).mono ?_;rintro e w3 ⟨rfl,hb⟩;have HB3 := Aside0.mk (below_step (below_step HB1.out HB.out) hb);clear hb)
        go_ret
        exact ⟨rfl, HB3.out⟩
    · have p2 : ((j : Int) < (l.length : Int)) = False := eq_false (by omega)
      have p3 : (j < l.length) = False := eq_false hj
      obtain rfl : j = n := by omega
      go_wp2_with (go_at_call 15;refine (incipitref12_EqAll.calls K Av cv ld A1 c1 ld true _ (Kd.C_below HV.out.2 HB.out) HV.out.1 (Kd.C_below (Kd.C_below HC1.out HB1.out) HB.out) hc1 HK.out).mono ?_;rintro e w3 ⟨rfl,hb⟩;have HB3 := Aside0.mk (below_step (below_step HB1.out HB.out) hb);clear hb)
      go_ret
      exact ⟨rfl, HB3.out⟩
end Go.Proofs.Ytenmljkddhonmaa.MTbl

namespace Go.Proofs.Ytenmljkddhonmaa.MTbl
open Go.RowKit Go.Lib Go.Sort Go.Proofs.YtenmljkddhonmaaW.PrintWords Go.Proofs.YtenmljkddhonmaaW.PrintLast Go.Proofs.YtenmljkddhonmaaW.PrintMore
set_option linter.unusedVariables false
set_option linter.unusedSimpArgs false
theorem store_world_string {w wr : World} {n blk off : Nat} {dk : Array (List UInt8)} {i : Nat} (hi : i < dk.size) (hwr : wr = putRow encStr (Sort.ahead w n) blk off dk) (x : (List UInt8)) :
    (wr.setCell ⟨blk, off + i, none⟩ (encStr x)).drew = putRow encStr (Sort.ahead w (n + 1)) blk off (dk.setIfInBounds i x) := by
  subst hwr
  rw [putRow_set encStr _ blk off dk i x hi, ← ahead_drew]
  rfl

set_option maxHeartbeats 4000000 in
set_option maxRecDepth 1000000 in
/-- slices.Compact at []string, over an array: the library's two loops are walked. -/
theorem slices_Compact_arr (blk off cap : Nat) (d : Array (List UInt8)) (w : World) (hH : Holds encStr w blk off d) (hsz : d.size ≤ 9223372036854775807) (hcap : d.size ≤ cap) :
    Calls Try.prog 72 #[.slice (some ⟨blk,off,none⟩) d.size cap] w fun e w' => e = .returned (.slice (some ⟨blk,off,none⟩) (compactUpTo d d.size).length cap) ∧ ∃ q,w' = putRow encStr (Sort.ahead w q) blk off (compactUpTo d d.size ++ List.replicate (d.size - (compactUpTo d d.size).length) []).toArray := by
  have hu91 := Try.underlying91
  have same : ∀ q,(∀ j,j < d.size → keeps d j = true) → (compactUpTo d d.size).length = d.size ∧ w.drewN q = putRow encStr (Sort.ahead w q) blk off (compactUpTo d d.size ++ List.replicate (d.size - (compactUpTo d d.size).length) []).toArray := by
    intro q hall
    have e : compactUpTo d d.size = d.toList := by rw [compactUpTo_all d _ hall, range_map_get]
    rw [e]
    refine ⟨by simp, ?_⟩
    simp only [Array.length_toList, Nat.sub_self, List.replicate_zero, List.append_nil, Array.toArray_toList]
    exact (putRow_self encStr (Sort.ahead w q) blk off d (holds_ahead encStr w q blk off d hH)).symm
  have HS : Aside (∀ q,(∀ j,j < d.size → keeps d j = true) → (compactUpTo d d.size).length = d.size ∧ w.drewN q = putRow encStr (Sort.ahead w q) blk off (compactUpTo d d.size ++ List.replicate (d.size - (compactUpTo d d.size).length) []).toArray) := same
  clear same
  by_cases h2 : d.size < 2
  · have HH : Aside (Holds encStr w blk off d) := hH
    clear hH
    go_enter Try.func72, Try.ntmps72
    go_wp2
    go_ret
    obtain ⟨e1, e2⟩ := HS.out 0 (fun j hj => keeps_lt_one d j (by omega))
    exact ⟨by rw [e1]; rfl, 0, e2⟩
  · go_enter Try.func72, Try.ntmps72
    go_wp2
    go_loopg [3] d.size (fun g s3 wr => ∃ k q : Nat, 1 ≤ k ∧ k ≤ d.size ∧ d.size - k ≤ g ∧ s3 = .int .i64 k ∧ wr = w.drewN q ∧ ∀ j, j < k → keeps d j = true)
    case atStart => exact ⟨1, 0, Nat.le_refl _, by omega, by omega, rfl, rfl, keeps_lt_one d⟩
    case round =>
      obtain ⟨k, q, hk1, hk, hg, rfl, rfl, hall⟩ := hrel
      by_cases hlt : k < d.size
      · obtain ⟨c1, f1⟩ := hH k hlt
        obtain ⟨c0, f0⟩ := hH (k - 1) (by omega)
        have A : Aside (∀ j, j < k → keeps d j = true) := hall
        have HH : Aside (Holds encStr w blk off d) := hH
        clear hall hH
        generalize hx : d[k]! = x at c1
        generalize hy : d[k - 1]! = y at c0
        have B : Aside (d[k]! = x ∧ d[k - 1]! = y) := ⟨hx, hy⟩
        clear hx hy
        by_cases hdup : x = y
        · subst hdup
          go_wp2_with fail
          go_region
          go_wp2
          clear c0 c1 f0 f1
          go_loopg [3,5] d.size (fun g s3 s5 wr => ∃ (kk k2 q2 : Nat) (dk : Array (List UInt8)),s3 = .int .i64 kk ∧ s5 = .int .i64 k2 ∧ 1 ≤ k2 ∧ k + k2 ≤ d.size ∧ d.size - (k + k2) ≤ g ∧ wr = putRow encStr (Sort.ahead w q2) blk off dk ∧ CompInv d (k + k2) kk dk)
          case atStart => exact ⟨k,1,q + 1,d,rfl,rfl,Nat.le_refl _,by omega,by omega,(putRow_self encStr (Sort.ahead w (q + 1)) blk off d (holds_ahead encStr w (q + 1) blk off d HH.out)).symm,CompInv.start A.out (keeps_neg (by omega) (by rw [B.out.1,B.out.2]))⟩
          case round =>
            obtain ⟨kk, k2, q2, dk, rfl, rfl, h1, hle, hg2, hwr, hI⟩ := hrel
            have hkk := hI.lt
            have hds := hI.size
            have hHk : Holds encStr wr blk off dk := by rw [hwr]; exact holds_putRow encStr _ blk off d dk (holds_ahead encStr w q2 blk off d HH.out) hds
            have W2 : Aside (wr = putRow encStr (Sort.ahead w q2) blk off dk) := hwr
            have I2 : Aside (CompInv d (k + k2) kk dk) := hI
            clear hwr
            by_cases hlt2 : k + k2 < d.size
            · obtain ⟨cm, _⟩ := hHk (k + k2) (by omega)
              obtain ⟨cp, _⟩ := hHk (k + k2 - 1) (by omega)
              obtain ⟨ck, fk⟩ := hHk kk (by omega)
              rw [hI.high (k + k2) (by omega), show off + (k + k2) = off + k + k2 by omega] at cm
              rw [hI.high (k + k2 - 1) (by omega), show off + (k + k2 - 1) = off + k + (k2 - 1) by omega] at cp
              clear hHk hI
              generalize hu : d[k + k2]! = u at cm
              generalize hv : d[k + k2 - 1]! = v at cp
              generalize dk[kk]! = old at ck
              have C : Aside (d[k + k2]! = u ∧ d[k + k2 - 1]! = v) := ⟨hu, hv⟩
              clear hu hv
              by_cases huv : u = v
              · subst huv
                go_wp2_with fail
                go_region
                go_wp2
                go_roundg (d.size - (k + (k2 + 1)))
                case measure => omega
                case rel => exact ⟨kk, k2 + 1, q2 + 1, dk, rfl, by go_num, by omega, by omega, Nat.le_refl _, by rw [W2.out]; rfl, I2.out.skip (keeps_neg (by omega) (by rw [C.out.1, C.out.2]))⟩
              · have hne : (u == v) = false := beq_eq_false_iff_ne.2 huv
                go_wp2_with fail
                go_region
                go_wp2
                go_roundg (d.size - (k + (k2 + 1)))
                case measure => omega
                case rel => exact ⟨kk + 1,k2 + 1,q2 + 1,dk.setIfInBounds kk u,by go_num,by go_num,by omega,by omega,Nat.le_refl _,store_world_string (by omega) W2.out u,by have := I2.out.keep hlt2 (keeps_pos (by rw [C.out.1,C.out.2];exact huv));rwa [C.out.1] at this⟩
            · have hend : k + k2 = d.size := by omega
              have hcl : ∀ ty,(Builtin.clear_ #[91] ty #[.slice (some ⟨blk,off + kk,none⟩) (d.size - kk) (cap - kk)]).run Try.prog wr = .ok (.tuple #[]) (wr.setCells blk (off + kk) (List.replicate (d.size - kk) (encStr []))) :=
                fun ty => Lib.run_clear_slice wr _ _ ty (encStr []) Try.underlying91 (fun _ => by rfl) rfl rfl blk (off + kk) _ _ (by omega) (fun j hj => by rw [show off + kk + j = off + (kk + j) by omega,(hHk (kk + j) (by omega)).1];rfl) (fun j hj => by rw [show off + kk + j = off + (kk + j) by omega];exact (hHk (kk + j) (by omega)).2)
              clear hHk hI
              go_wp2
              go_ret
              have hI := I2.out
              rw [hend] at hI
              refine ⟨by rw [hI.len]; rfl, q2, ?_⟩
              rw [hI.len, ← hI.done [], ← putRow_setCells encStr _ blk off _ dk kk (by simp; omega), ← W2.out, List.map_replicate]
        · have hne : (x == y) = false := beq_eq_false_iff_ne.2 hdup
          go_wp2_with fail
          go_region
          go_wp2
          go_roundg (d.size - (k + 1))
          case measure => omega
          case rel =>
            refine ⟨k + 1, q + 1, by omega, by omega, Nat.le_refl _, by go_num, rfl, fun j hj => ?_⟩
            by_cases e : j = k
            · subst e
              exact keeps_pos (by rw [B.out.1, B.out.2]; exact hdup)
            · exact A.out j (by omega)
      · have : k = d.size := by omega
        subst this
        have HH : Aside (Holds encStr w blk off d) := hH
        clear hH
        go_wp2
        go_ret
        obtain ⟨e1, e2⟩ := HS.out q hall
        exact ⟨by rw [e1]; rfl, q, e2⟩

/-- slices.Compact at []string: "Compact replaces consecutive runs of equal elements with a single copy. This is like the uniq command found on Unix. Compact modifies the contents of the slice s and returns the modified slice, which may have a smaller length. Compact zeroes the elements between the new length and the original length. The result preserves the nilness of s.": IT RETURNS THE SLICE CUT TO 'Lib.compact zs'; ITS CELLS HOLD 'Lib.compact zs', THEN ZERO VALUES up to the old length; all else is as it was, but for the count of draws. IN THE WORDS OF slices.Sort's CONTRACT ('Holds', 'putRow'): so the everyday 'slices.Sort(xs); xs = slices.Compact(xs)' goes from the one contract to the other. It asks 'zs.length ≤ cap' (every slice's: the reslicing 's[:k]' looks at it). Length 0, nil: '.._empty'. -/
theorem slices_Compact_str (blk off cap : Nat) (zs : List (List UInt8)) (w : World) (hH : Holds encStr w blk off zs.toArray) (hsz : zs.length ≤ 9223372036854775807) (hcap : zs.length ≤ cap) :
    Calls Try.prog 72 #[.slice (some ⟨blk,off,none⟩) zs.length cap] w fun e w' => e = .returned (.slice (some ⟨blk,off,none⟩) (Lib.compact zs).length cap) ∧ ∃ q,w' = putRow encStr (Sort.ahead w q) blk off (Lib.compact zs ++ List.replicate (zs.length - (Lib.compact zs).length) []).toArray := by
  have h := slices_Compact_arr blk off cap zs.toArray w hH (by simpa using hsz) (by simpa using hcap)
  simpa [Lib.compact] using h
end Go.Proofs.Ytenmljkddhonmaa.MTbl

namespace Go.Proofs.Ytenmljkddhonmaa.MTbl
open Go.RowKit Go.Proofs.YtenmljkddhonmaaW.PrintWords Go.Proofs.YtenmljkddhonmaaW.PrintLast Go.Proofs.YtenmljkddhonmaaW.PrintMore
set_option linter.unusedVariables false
set_option linter.unusedSimpArgs false
/-! The forms of entries, equal ones behind one another once -/
def compB (l : List ByteArray) : List ByteArray := (Lib.compact (l.map (·.data.toList))).map (fun x => (⟨x.toArray⟩ : ByteArray))
theorem mem_compactUpTo {α : Type} [Inhabited α] [DecidableEq α] (d : Array α) (m : Nat) : ∀ j, j < m → d[j]! ∈ Lib.compactUpTo d m := by
  intro j
  induction j with
  | zero =>
    intro h
    unfold Lib.compactUpTo
    exact List.mem_map.2 ⟨0, List.mem_filter.2 ⟨List.mem_range.2 h, Lib.keeps_lt_one d 0 (by omega)⟩, rfl⟩
  | succ j ih =>
    intro h
    by_cases he : d[j + 1]! = d[j]!
    · rw [he]; exact ih (by omega)
    · unfold Lib.compactUpTo
      exact List.mem_map.2 ⟨j + 1, List.mem_filter.2 ⟨List.mem_range.2 h, Lib.keeps_pos (by simpa using he)⟩, rfl⟩
theorem compactUpTo_le {α : Type} [Inhabited α] [DecidableEq α] (d : Array α) (m : Nat) : (Lib.compactUpTo d m).length ≤ m := by
  unfold Lib.compactUpTo
  rw [List.length_map]
  refine Nat.le_trans (List.length_filter_le _ _) ?_
  rw [List.length_range]; exact Nat.le_refl _
theorem compB_length (l : List ByteArray) : (compB l).length ≤ l.length := by
  unfold compB Lib.compact
  rw [List.length_map]
  refine Nat.le_trans (compactUpTo_le _ _) ?_
  rw [List.length_map]; exact Nat.le_refl _
theorem mem_compB {x : ByteArray} {l : List ByteArray} : x ∈ compB l ↔ x ∈ l := by
  unfold compB Lib.compact
  constructor
  · intro h
    obtain ⟨y, hy, rfl⟩ := List.mem_map.1 h
    unfold Lib.compactUpTo at hy
    obtain ⟨j, hj, rfl⟩ := List.mem_map.1 hy
    have hj := List.mem_range.1 (List.mem_filter.1 hj).1
    rw [List.length_map] at hj
    have e : (l.map (·.data.toList)).toArray[j]! = (l[j]).data.toList := by
      rw [getElem!_pos _ _ (by simpa using hj)]
      simp
    rw [e]
    exact List.getElem_mem hj
  · intro h
    obtain ⟨j, hj, rfl⟩ := List.mem_iff_getElem.1 h
    have h2 := mem_compactUpTo (l.map (·.data.toList)).toArray (l.map (·.data.toList)).length j (by simpa using hj)
    refine List.mem_map.2 ⟨_, h2, ?_⟩
    rw [getElem!_pos _ _ (by simpa using hj)]
    simp
theorem slices_Compact.calls (v : Value) (l : List ByteArray) (w : World) (base : Nat) (ok : Nat → Prop) (h : Kd.R Kd.string 9 w base ok v l) (hne : l ≠ []) (hl : l.length ≤ 100000) :
    Calls Try.prog 72 #[v] w fun e w' => ∃ v', e = .returned v' ∧ Kd.R Kd.string 9 w' base (fun _ => True) v' (compB l) ∧ ∀ w0, Below base w0 w → Below base w0 w' := by
  have ho := Kd.own_of_R h
  unfold encs at ho
  rw [← Lib.map_encStr] at ho
  have hv : v ≠ .slice none 0 0 := by
    rintro rfl
    have := (Kd.R_reads' h).1
    exact hne (List.length_eq_zero_iff.1 this.symm)
  obtain ⟨g, cap, rfl, hbg, hgl, hnc, hcm, hlen, hH⟩ := Lib.holds_of_ownsRow ho hv
  have hq := slices_Compact_str g 0 cap (l.map (·.data.toList)) w hH (by rw [List.length_map]; omega) (by rw [List.length_map]; omega)
  rw [List.length_map] at hq
  refine hq.mono ?_
  rintro e w' ⟨rfl, q, rfl⟩
  have hcl : (Lib.compact (l.map (·.data.toList))).length ≤ l.length := by have := compB_length l; unfold compB at this; rwa [List.length_map] at this
  refine ⟨_, rfl, Kd.R_of_own ?_ (fun _ _ => trivial), fun w0 hb => Lib.below_putRow hb hbg⟩
  have h3 := Lib.ownsRow_putRow (q := q) (k := (Lib.compact (l.map (·.data.toList))).length) (ys := Lib.compact (l.map (·.data.toList)) ++ List.replicate (l.length - (Lib.compact (l.map (·.data.toList))).length) []) ho (by rw [List.length_append,List.length_replicate];omega) hcl
  rw [List.take_left'  rfl] at h3
  have e1 : (compB l).length = (Lib.compact (l.map (·.data.toList))).length := by unfold compB; rw [List.length_map]
  have e2 : encs Value.string (compB l) = (Lib.compact (l.map (·.data.toList))).map Proofs.encStr := by
    unfold encs compB
    rw [List.map_map]
    apply List.map_congr_left
    intro x _
    simp [Proofs.encStr]
  rw [e1, e2]
  exact h3
theorem info9 : (Try.prog.info? 9).map (fun i => (i.zero, i.size, i.bytes)) = some (some (.string ⟨#[]⟩), 1, 16) := by kernel_rfl
set_option maxHeartbeats 2000000 in
set_option maxRecDepth 1000000 in
theorem table_norms.calls (A : Option Addr) (c : Nat) (l : List S28) (w : World) (hr : Kd.C k28 w A l.length l) (hne : l ≠ []) (hl : l.length ≤ 100000) :
    Calls Try.prog 50 #[.slice A l.length c] w fun e w' => ∃ v, e = .returned v ∧ Kd.R Kd.string 9 w' w.heap.size (fun _ => True) v (compB (l.map S28.f0)) ∧ Below w.heap.size w w' := by
  have hu28 := Try.underlying28
  have hu91 := Try.underlying91
  have HR := Aside0.mk hr
  have HN := Aside0.mk hne
  have HL := Aside0.mk hl
  clear hr hne hl
  go_enter Try.func50, Try.ntmps50
  go_wp2
  go_loopg [3,8] l.length (fun kx s3 s8 wr => ∃ (i : Nat) (u : Value),s3 = u ∧ s8 = .int .i64 i ∧ i ≤ l.length ∧ l.length - i ≤ kx ∧ Aside0 (Kd.R Kd.string 9 wr w.heap.size (fun _ => True) u ((l.take i).map S28.f0)) ∧ Aside0 (Below w.heap.size w wr))
  case atStart => exact ⟨0, _, rfl, rfl, Nat.zero_le _, by omega, ⟨Kd.R_nil _ _ _ _ _⟩, ⟨Below.refl _ _⟩⟩
  case round =>
    obtain ⟨i, u3, rfl, rfl, hie, hik, HO, HB⟩ := hrel
    by_cases hi : i < l.length
    · cases gk with
      | zero => omega
      | succ k1 =>
      have HVr := Kd.C_below HR.out HB.out
      obtain ⟨ad, rfl, g0, g1, g2, g3, g4⟩ := at_T28 HVr (i : Int) (by omega) (by omega)
      have hx : rd_T28 l (i : Int) = l[i] := by
        unfold rd_T28; rw [Int.toNat_natCast, List.getD_eq_getElem?_getD, List.getElem?_eq_getElem hi]; rfl
      have htk : (l.take (i + 1)).map S28.f0 = (l.take i).map S28.f0 ++ [(l[i]).f0] := by rw [List.take_succ_eq_append_getElem hi, List.map_append]; rfl
      rw [hx] at g0 g1 g2 g3 g4
      rw [Int.toNat_natCast] at g0
      simp only [Int.toNat_natCast] at g1 g2 g3 g4
      clear HVr hx
      have HT := Aside0.mk htk
      have hll := HL.out
      have hlen : ((l.take i).map S28.f0).length = i := by rw [List.length_map, List.length_take]; omega
      have HLE := Aside0.mk hlen
      clear htk hlen
      generalize l[i] = x at *
      have p1 : ((i : Int) < (l.length : Int)) = True := eq_true (by omega)
      have p3 : (i < l.length) = True := eq_true hi
      have hwa : (wr.alloc (.cells #[.string x.f0, .int .i64 x.f1, .int .i64 x.f2, .string x.f3, .string x.f4] 28)).heap.size = wr.heap.size + 1 := by simp
      go_wp2_with (first | ((with_reducible refine gate_builtin (b := .append) (xs := #[.tmp 12,.tmp 15]) rfl ?_);at_builtin;refine Kd.R_append Kd.string (w0 := w) (W := wr.alloc (.cells #[.string x.f0,.int .i64 x.f1,.int .i64 x.f2,.string x.f3,.string x.f4] 28)) w.heap.size rfl (.tmp 12) (.tmp 15) 91 9 (.string ⟨#[]⟩) 16 rfl Try.underlying91 info9 rfl (by decide) (by omega) u3 ((l.take i).map S28.f0) x.f0 [.string x.f0] (fun _ => True) (fun _ => False) rfl (by rw [hwa];rfl) ?aP (fun _ hk => hk.elim) ?aF ?aO ?aB ?aS ?aL ?_;(case aP => exact rfl);(case aB => exact below_alloc HB.out _);(case aF => exact (fun _ _ => trivial));(case aO => exact Kd.R_alloc HO.out _);(case aS => exact below_size (below_alloc HB.out _));(case aL => have := HLE.out;rw [List.length_map,List.length_take];omega);intro v6 w6 ho hb hg hat;have HO6 := Aside0.mk ho;have HB6 := Aside0.mk hb;clear ho hb hg hat))
      go_roundg k1
      case measure => omega
      case rel => exact ⟨i + 1, _, rfl, by go_num, by omega, by omega, by rw [HT.out]; exact HO6, HB6⟩
    · have hie2 : i = l.length := by omega
      subst hie2
      rw [List.take_length] at HO
      have hq := slices_Compact.calls u3 (l.map S28.f0) wr w.heap.size _ HO.out (by simpa using HN.out) (by rw [List.length_map]; exact HL.out)
      clear HO
      go_wp2_with (go_at_call 72; refine hq.mono ?_; rintro e w' ⟨v, rfl, h1, h2⟩; have HV := Aside0.mk h1; have HB2 := Aside0.mk (h2 w HB.out); clear h1 h2)
      go_ret
      exact ⟨_, rfl, HV.out, HB2.out⟩
end Go.Proofs.Ytenmljkddhonmaa.MTbl

namespace Go.Proofs.Ytenmljkddhonmaa.MTbl
open Go.RowKit Go.Proofs.Ytenmljkddhonmaa.QTbl Go.Proofs.YtenmljkddhonmaaW.PrintWords Go.Proofs.YtenmljkddhonmaaW.PrintLast Go.Proofs.YtenmljkddhonmaaW.PrintMore
set_option linter.unusedVariables false
set_option linter.unusedSimpArgs false
/-! A builder whose blocks lie from n on; what lies below n stays -/
def trunc (w : World) (n : Nat) : World := { w with heap := w.heap.extract 0 n }
theorem trunc_size {w : World} {n : Nat} (h : n ≤ w.heap.size) : (trunc w n).heap.size = n := by
  unfold trunc; simp; omega
theorem trunc_at {w : World} {n k : Nat} (h : n ≤ w.heap.size) (hk : k < n) : (trunc w n).heap[k]? = w.heap[k]? := by
  unfold trunc; simp [Array.getElem?_extract]; omega
theorem trunc_below {w : World} {n : Nat} (h : n ≤ w.heap.size) : Below n (trunc w n) w :=
  ⟨rfl, rfl, rfl, by rw [trunc_size h]; exact h, fun k hk => (trunc_at h hk).symm⟩
theorem u8_step {w w1 : World} {base : Nat} {ok : Nat → Prop} {v : Value} {xs : List Int} (h : Kd.R (Kd.int .u8) 5 w base ok v xs) (hm : ∀ k,v.ownBlock = some k → w1.heap[k]? = w.heap[k]?) : Kd.R (Kd.int .u8) 5 w1 base ok v xs :=
  Kd.R_reok rfl (Kd.R_step (Kd.R_tight rfl h) (fun k hk _ => hm k hk.symm)) h.1
theorem u8_ok {w : World} {base : Nat} {ok ok' : Nat → Prop} {v : Value} {xs : List Int} (h : Kd.R (Kd.int .u8) 5 w base ok v xs) (hm : ∀ k,v.ownBlock = some k → ok' k) : Kd.R (Kd.int .u8) 5 w base ok' v xs := Kd.R_reok rfl h hm
def BldN (n : Nat) (w : World) (g : Nat) (s : St) : Prop :=
  n ≤ w.heap.size ∧ n ≤ g ∧ ∃ vb vp,w.heap[g]? = some (.cells #[.int .i64 s.rows,.string s.last,vb,vp] 120 (0,0)) ∧ Kd.R (Kd.int .u8) 5 w n (fun k => k ≠ g) vb s.b ∧ Kd.R (Kd.int .u8) 5 w n (fun k => k ≠ g) vp s.p ∧ (∀ k,vb.ownBlock = some k → vp.ownBlock ≠ some k)
theorem BldN.toS {n : Nat} {w : World} {g : Nat} {s : St} (h : BldN n w g s) : BldS (trunc w n) w g s := by
  obtain ⟨h1, h2, vb, vp, h3, h4, h5, h6⟩ := h
  have e := trunc_size h1
  unfold BldS BldI
  rw [e]
  exact ⟨h2, trunc_below h1, vb, vp, h3, h4, h5, h6⟩
theorem BldN.ofS {n : Nat} {w w0 : World} {g : Nat} {s : St} (h : BldS w0 w g s) (hn : w0.heap.size = n) : BldN n w g s := by
  obtain ⟨h2, hB, vb, vp, h3, h4, h5, h6⟩ := h
  rw [hn] at h2 h4 h5
  exact ⟨by have := hB.size; omega, h2, vb, vp, h3, h4, h5, h6⟩
/-- What turns only below n leaves the builder. -/
theorem BldN.step {n : Nat} {w w1 : World} {g : Nat} {s : St} (h : BldN n w g s) (hs : w.heap.size ≤ w1.heap.size) (hm : ∀ k, n ≤ k → k < w.heap.size → w1.heap[k]? = w.heap[k]?) : BldN n w1 g s := by
  obtain ⟨h1, h2, vb, vp, h3, h4, h5, h6⟩ := h
  refine ⟨by omega,h2,vb,vp,(hm g h2 (blk_lt h3)).trans h3,u8_step h4 (fun k hk => hm k (Kd.R_base h4 k hk) (Kd.R_lt h4 k hk)),u8_step h5 (fun k hk => hm k (Kd.R_base h5 k hk) (Kd.R_lt h5 k hk)),h6⟩
theorem BldN.below {n : Nat} {w w1 : World} {g : Nat} {s : St} (h : BldN n w g s) (hb : Below w.heap.size w w1) : BldN n w1 g s := h.step hb.size (fun k _ hk => hb.block k hk)
theorem BldN.set {n : Nat} {w : World} {g : Nat} {s : St} (h : BldN n w g s) {p i : Nat} (hp : p < n) (u : Value) : BldN n (w.setCell ⟨p, i, none⟩ u) g s :=
  h.step (by rw [World.size_setCell]; exact Nat.le_refl _) (fun k hk _ => Below.heap_setCell w _ u k (by show k ≠ p; omega))
theorem below_of_trunc {n : Nat} {w w' : World} (hn : n ≤ w.heap.size) (h : Below n (trunc w n) w') (hs : w.heap.size ≤ w'.heap.size) : Below n w w' :=
  ⟨h.os, h.tape, h.output, hs, fun k hk => (h.block k hk).trans (trunc_at hn hk)⟩
theorem addN.calls (n : Nat) (w : World) (g : Nat) (s : St) (key value : ByteArray) (hI : BldN n w g s) (hr : s.rows < 1000000000) (hl : s.last.size < 1000000) (hks : key.size < 1000000) (hvs : value.size < 1000000) (hbl : s.b.length < 4294967296) (hpl : s.p.length < 4294967296) (ha : addB s key = true) :
    Calls Try.prog 45 #[.pointer (some ⟨g, 0, none⟩), .string key, .string value] w fun e w' => e = .returned (.bool true) ∧ BldN n w' g (addT s key value) ∧ Below n w w' ∧ Oth w w' g := by
  have hn := hI.1
  refine (block_Add.calls (trunc w n) w g s key value hI.toS hr hl hks hvs hbl hpl).mono ?_
  rintro e w' ⟨rfl, h1, h2⟩
  rw [ha, if_pos rfl] at h1
  have hb := h1.base
  rw [trunc_size hn] at hb
  exact ⟨by rw [ha], BldN.ofS h1 (trunc_size hn), below_of_trunc hn hb h2.1, h2⟩
theorem bytesN.calls (n : Nat) (w : World) (g : Nat) (s : St) (hI : BldN n w g s) (hbl : s.b.length < 4294967296) (hpl : s.p.length < 4294967296) :
    Calls Try.prog 43 #[.pointer (some ⟨g, 0, none⟩)] w fun e w' => ∃ v, e = .returned v ∧ Kd.R (Kd.int .u8) 5 w' w.heap.size (fun _ => True) v s.out ∧ Below w.heap.size w w' := by
  refine (block_BytesS.calls (trunc w n) w g s hI.toS hbl hpl).mono ?_
  rintro e w' ⟨v, rfl, h1, h2, h3⟩
  exact ⟨v, rfl, h1, h3⟩
theorem newN.calls (w : World) :
    Calls Try.prog 41 #[] w fun e w' => ∃ g : Nat, e = .returned (.pointer (some ⟨g, 0, none⟩)) ∧ BldN w.heap.size w' g St0 ∧ Below w.heap.size w w' := by
  refine (block_NewS.calls w w (Below.refl _ _)).mono ?_
  rintro e w' ⟨g, rfl, h1, h2, h3⟩
  exact ⟨g, rfl, BldN.ofS h1 rfl, h2⟩
theorem sizeN.calls (n : Nat) (w : World) (g : Nat) (s : St) (hI : BldN n w g s) (hbl : s.b.length < 4294967296) (hpl : s.p.length < 4294967296) :
    Calls Try.prog 48 #[.pointer (some ⟨g, 0, none⟩)] w fun e w' => e = .returned (.int .i64 (szB s)) ∧ ∃ m, w' = w.drewN m := by
  obtain ⟨h1, h2, vb, vp, h3, h4, h5, h6⟩ := hI
  obtain ⟨Ab, cb, rfl⟩ := Kd.R_slice h4
  obtain ⟨Ap, cp, rfl⟩ := Kd.R_slice h5
  refine (block_Size_.calls w g s.rows s.last Ab s.b.length cb Ap s.p.length cp h3).mono ?_
  rintro e w' ⟨rfl, m, rfl⟩
  refine ⟨?_, m, rfl⟩
  rw [wrap64_id (n := (s.b.length : Int) + s.p.length) (by omega) (by omega), wrap64_id (by omega) (by omega)]
  unfold szB
  congr 2
end Go.Proofs.Ytenmljkddhonmaa.MTbl

namespace Go.Proofs.Ytenmljkddhonmaa.MTbl
open Go.RowKit Go.Proofs.Ytenmljkddhonmaa.QTbl Go.Proofs.YtenmljkddhonmaaW.PrintWords Go.Proofs.YtenmljkddhonmaaW.PrintLast Go.Proofs.YtenmljkddhonmaaW.PrintMore
set_option linter.unusedVariables false
set_option linter.unusedSimpArgs false
/-! Build's state: four boxes (builder, rows, sizes, count) -/
structure BuS (W0 w : World) (pb pr ps pc n g : Nat) (vr vs : Value) (st : St) (rows sizes : List Int) (cnt : Nat) : Prop where
  base : Below W0.heap.size W0 w
  b : w.heap[pb]? = some (.cells #[.pointer (some ⟨g, 0, none⟩)] 82 (0, 0))
  r : w.heap[pr]? = some (.cells #[vr] 43 (0, 0))
  s : w.heap[ps]? = some (.cells #[vs] 43 (0, 0))
  c : w.heap[pc]? = some (.cells #[.int .i64 cnt] 3 (0, 0))
  hb : W0.heap.size ≤ pb
  hr : W0.heap.size ≤ pr ∧ pr < n
  hs : W0.heap.size ≤ ps ∧ ps < n
  hc : W0.heap.size ≤ pc ∧ pc < n
  ne : pr ≠ ps
  R : Kd.R (Kd.int .u8) 5 w W0.heap.size (fun k => k < n) vr rows
  S : Kd.R (Kd.int .u8) 5 w W0.heap.size (fun k => k < n) vs sizes
  ap : ∀ k, vr.ownBlock = some k → vs.ownBlock ≠ some k
  bld : BldN n w g st
theorem below_set0 {w0 w : World} {p i : Nat} {u : Value} (h : Below w0.heap.size w0 w) (hp : w0.heap.size ≤ p) : Below w0.heap.size w0 (w.setCell ⟨p, i, none⟩ u) := below_set h hp
theorem BuS.next {W0 w : World} {pb pr ps pc n g : Nat} {vr vs : Value} {st : St} {rows sizes out pt : List Int} {cnt : Nat} (I : BuS W0 w pb pr ps pc n g vr vs st rows sizes cnt)
    {w1 w2 w3 w4 w5 : World} {v1 v2 : Value} {g' : Nat} (hb1 : Below w.heap.size w w1)
    (hO1 : Kd.R (Kd.int .u8) 5 w2 W0.heap.size (fun _ => True) v1 (rows ++ out)) (hg1 : w1.grownBy w2 vr.ownBlock) (hat1 : v1.ownBlock = vr.ownBlock ∨ ∃ b, v1.ownBlock = some b ∧ w1.heap.size ≤ b)
    (hb3 : Below w2.heap.size w2 w3)
    (hO2 : Kd.R (Kd.int .u8) 5 w4 W0.heap.size (fun _ => True) v2 (sizes ++ pt)) (hg2 : w3.grownBy w4 vs.ownBlock) (hat2 : v2.ownBlock = vs.ownBlock ∨ ∃ b,v2.ownBlock = some b ∧ w3.heap.size ≤ b) (hB4 : Below W0.heap.size W0 w4)
    (hN : BldN w4.heap.size w5 g' St0) (hb5 : Below w4.heap.size w4 w5) :
    BuS W0 ((((w5.setCell ⟨pr,0,none⟩ v1).setCell ⟨ps,0,none⟩ v2).setCell ⟨pb,0,none⟩ (.pointer (some ⟨g',0,none⟩))).setCell ⟨pc,0,none⟩ (.int .i64 ((cnt + 1 : Nat) : Int))) pb pr ps pc w4.heap.size g' v1 v2 St0 (rows ++ out) (sizes ++ pt) (cnt + 1) := by
  have s1 := hb1.size
  have s2 := hg1.size
  have s3 := hb3.size
  have s4 := hg2.size
  have s5 := hb5.size
  have nR : ∀ (p t : Nat) (cs : Array Value), w.heap[p]? = some (.cells cs t (0, 0)) → t ≠ 5 → w5.heap[p]? = some (.cells cs t (0, 0)) := by
    intro p t cs hp ht
    have hlt := blk_lt hp
    have e1 : some p ≠ vr.ownBlock := Kd.R_ne I.R hp (fun h => ht h.symm)
    have e2 : some p ≠ vs.ownBlock := Kd.R_ne I.S hp (fun h => ht h.symm)
    rw [hb5.block p (by omega), hg2.block p (by omega) e2, hb3.block p (by omega), hg1.block p (by omega) e1, hb1.block p hlt]
    exact hp
  have r5 := nR pr 43 _ I.r (by decide)
  have q5 := nR ps 43 _ I.s (by decide)
  have b5 := nR pb 82 _ I.b (by decide)
  have c5 := nR pc 3 _ I.c (by decide)
  have lr := blk_lt I.r
  have ls := blk_lt I.s
  have lb := blk_lt I.b
  have lc := blk_lt I.c
  have n1 : pb ≠ pr := blk_ne I.b I.r (by decide)
  have n2 : pb ≠ ps := blk_ne I.b I.s (by decide)
  have n3 : pb ≠ pc := blk_ne I.b I.c (by decide)
  have n4 : pc ≠ pr := blk_ne I.c I.r (by decide)
  have n5 : pc ≠ ps := blk_ne I.c I.s (by decide)
  have n6 := I.ne
  have l1 : ∀ k, v1.ownBlock = some k → k < w2.heap.size := Kd.R_lt hO1
  have l2 : ∀ k, v2.ownBlock = some k → k < w4.heap.size := Kd.R_lt hO2
  have lvs : ∀ k, vs.ownBlock = some k → k < w.heap.size := Kd.R_lt I.S
  have d1 : ∀ k, v1.ownBlock = some k → vs.ownBlock ≠ some k := by
    intro k hk e
    rcases hat1 with h | ⟨b, h, hb⟩
    · exact I.ap k (h ▸ hk) e
    · rw [h] at hk; injection hk with hk; have := lvs k e; omega
  have d2 : ∀ k, v1.ownBlock = some k → v2.ownBlock ≠ some k := by
    intro k hk e
    rcases hat2 with h | ⟨b, h, hb⟩
    · exact d1 k hk (h ▸ e)
    · rw [h] at e; injection e with e; have := l1 k hk; omega
  have R1 : Kd.R (Kd.int .u8) 5 w5 W0.heap.size (fun _ => True) v1 (rows ++ out) := u8_step hO1 (fun k hk => by
    have := l1 k hk
    rw [hb5.block k (by omega), hg2.block k (by omega) (fun e => d1 k hk e.symm), hb3.block k (by omega)])
  have R2 : Kd.R (Kd.int .u8) 5 w5 W0.heap.size (fun _ => True) v2 (sizes ++ pt) := u8_step hO2 (fun k hk => hb5.block k (l2 k hk))
  have far : ∀ (v : Value) (xs : List Int), Kd.R (Kd.int .u8) 5 w5 W0.heap.size (fun _ => True) v xs → (∀ k, v.ownBlock = some k → k < w4.heap.size) →
      Kd.R (Kd.int .u8) 5 ((((w5.setCell ⟨pr,0,none⟩ v1).setCell ⟨ps,0,none⟩ v2).setCell ⟨pb,0,none⟩ (.pointer (some ⟨g',0,none⟩))).setCell ⟨pc,0,none⟩ (.int .i64 ((cnt + 1 : Nat) : Int))) W0.heap.size (fun k => k < w4.heap.size) v xs := by
    intro v xs hv hl
    have a1 : some pr ≠ v.ownBlock := Kd.R_ne hv r5 (by decide)
    have a2 : some ps ≠ v.ownBlock := Kd.R_ne hv q5 (by decide)
    have a3 : some pb ≠ v.ownBlock := Kd.R_ne hv b5 (by decide)
    have a4 : some pc ≠ v.ownBlock := Kd.R_ne hv c5 (by decide)
    refine u8_ok (u8_step hv (fun k hk => ?_)) hl
    rw [hk] at a1 a2 a3 a4
    rw [Below.heap_setCell _ _ _ k (fun e => a4 (by rw [e])),Below.heap_setCell _ _ _ k (fun e => a3 (by rw [e])),Below.heap_setCell _ _ _ k (fun e => a2 (by rw [e])),Below.heap_setCell _ _ _ k (fun e => a1 (by rw [e]))]
  refine ⟨?_, ?_, ?_, ?_, ?_, ?_, ?_, ?_, ?_, n6, far _ _ R1 (fun k hk => by have := l1 k hk; omega), far _ _ R2 l2, d2, ?_⟩
  · exact below_set0 (below_set0 (below_set0 (below_set0 (hB4.trans (hb5.mono (by have := hB4.size; omega))) I.hr.1) I.hs.1) I.hb) I.hc.1
  · exact blk_far (blk_put (blk_far (blk_far b5 n1 _) n2 _) 0 _ rfl) n3 _
  · exact blk_far (blk_far (blk_far (blk_put r5 0 _ rfl) n6 _) n1.symm _) n4.symm _
  · exact blk_far (blk_far (blk_put (blk_far q5 n6.symm _) 0 _ rfl) n2.symm _) n5.symm _
  · exact blk_put (blk_far (blk_far (blk_far c5 n4 _) n5 _) n3.symm _) 0 _ rfl
  · exact I.hb
  · exact ⟨I.hr.1, by omega⟩
  · exact ⟨I.hs.1, by omega⟩
  · exact ⟨I.hc.1, by omega⟩
  · exact (((hN.set (by omega) _).set (by omega) _).set (by omega) _).set (by omega) _
theorem BuS.below {W0 w w' : World} {pb pr ps pc n g : Nat} {vr vs : Value} {st : St} {rows sizes : List Int} {cnt : Nat} (I : BuS W0 w pb pr ps pc n g vr vs st rows sizes cnt) (hb : Below w.heap.size w w') : BuS W0 w' pb pr ps pc n g vr vs st rows sizes cnt :=
  ⟨I.base.trans (hb.mono I.base.size), blk_below I.b hb, blk_below I.r hb, blk_below I.s hb, blk_below I.c hb, I.hb, I.hr, I.hs, I.hc, I.ne, Kd.R_below I.R hb, Kd.R_below I.S hb, I.ap, I.bld.below hb⟩
/-- A row more in the builder. -/
theorem BuS.add {W0 w w' : World} {pb pr ps pc n g : Nat} {vr vs : Value} {st st' : St} {rows sizes : List Int} {cnt : Nat} (I : BuS W0 w pb pr ps pc n g vr vs st rows sizes cnt) (hn : W0.heap.size ≤ n) (hN : BldN n w' g st') (hb : Below n w w') (hO : Oth w w' g) : BuS W0 w' pb pr ps pc n g vr vs st' rows sizes cnt := by
  obtain ⟨_, _, vb, vp, h3, _, _, _⟩ := I.bld
  refine ⟨I.base.trans (hb.mono hn),?_,(hb.block pr I.hr.2).trans I.r,(hb.block ps I.hs.2).trans I.s,(hb.block pc I.hc.2).trans I.c,I.hb,I.hr,I.hs,I.hc,I.ne,u8_step I.R (fun k hk => hb.block k (I.R.1 k hk)),u8_step I.S (fun k hk => hb.block k (I.S.1 k hk)),I.ap,hN⟩
  exact hO.2 pb _ 82 (blk_ne I.b h3 (by decide)) (by decide) I.b
end Go.Proofs.Ytenmljkddhonmaa.MTbl
