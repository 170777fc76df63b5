import Derived.Test.YtoglanahjlfihaaHBlk12
import Derived.Test.YtoglanahjlfihaaHBlk11
import Derived.Lib.Strings
namespace Go.Proofs.Ytoglanahjlfihaa.QBlk
open Go.RowKit Go.Proofs.Ytoglanahjlfihaa.MBlk Go.Proofs.YtoglanahjlfihaaW.PrintWords Go.Proofs.YtoglanahjlfihaaW.PrintLast Go.Proofs.YtoglanahjlfihaaW.PrintMore
set_option linter.unusedVariables false
set_option linter.unusedSimpArgs false
/-! Builders that were filled row by row. -/
theorem addAll_app : ∀ (l m : List S68) (q : Bool × St), addAll (l ++ m) q = addAll m (addAll l q)
  | [], m, q => rfl
  | r :: t, m, q => by rw [List.cons_append, addAll, addAll, addAll_app]
theorem addTs_app : ∀ (l m : List S68) (s : St), addTs s (l ++ m) = addTs (addTs s l) m
  | [], m, s => rfl
  | r :: t, m, s => by rw [List.cons_append, addTs, addTs, addTs_app]
/-- A builder that took just these rows; M: what a row has of bytes, at most. -/
structure Laid (M : Nat) (l : List S68) (s : St) : Prop where
  all : addAll l (true, St0) = (true, s)
  ts : s = addTs St0 l
  fit : ∀ r ∈ l, Fit r
  rows : s.rows = l.length
  bl : s.b.length ≤ (30 + M) * l.length
  pl : s.p.length ≤ 4 * l.length
  bb : Bytes s.b
  pb : Bytes s.p
  last : s.last.size ≤ 30000
theorem Laid.nil (M : Nat) : Laid M [] St0 := ⟨rfl, rfl, fun r hr => absurd hr (by simp), rfl, Nat.zero_le _, Nat.zero_le _, fun c hc => absurd hc (by simp [St0]), fun c hc => absurd hc (by simp [St0]), by decide⟩
theorem Laid.step {M : Nat} {l : List S68} {s : St} (h : Laid M l s) {k v : ByteArray} (hb : addB s k = true) (hk : k.size ≤ 30000) (hv : v.size ≤ 30000) (hM : k.size + v.size ≤ M) : Laid M (l ++ [⟨k, v⟩]) (addT s k v) := by
  have hsh := sh_le s k
  have h0 := put_length10 (n := s.sh k) (by omega)
  have h1 := put_length10 (n := k.size - s.sh k) (by omega)
  have h2 := put_length10 (n := v.size) (by omega)
  refine ⟨?_, ?_, ?_, ?_, ?_, ?_, ?_, ?_, hk⟩
  · rw [addAll_app, h.all, addAll, addAll]
    simp only [if_true, hb]
  · rw [addTs_app, ← h.ts]; rfl
  · intro r hr
    rcases List.mem_append.1 hr with hr | hr
    · exact h.fit r hr
    · rw [List.mem_singleton.1 hr]; exact ⟨hk, hv⟩
  · simp only [addT, h.rows, List.length_append, List.length_singleton]
  · have := h.bl
    simp only [addT, List.length_append, List.length_drop, bytesOf_length, List.length_singleton, Nat.mul_add]
    omega
  · have := h.pl
    simp only [addT, List.length_append, List.length_singleton]
    split
    · rw [List.length_append, fix_length]; omega
    · omega
  · exact (((h.bb.append (((put_bytes (by omega)).append (put_bytes (by omega))).append (put_bytes (by omega)))).append ((bytesOf_bytes _).drop _)).append (bytesOf_bytes _))
  · simp only [addT]
    split
    · exact h.pb.append (fix_bytes _ _)
    · exact h.pb
theorem Laid.out_bytes {M : Nat} {l : List S68} {s : St} (h : Laid M l s) : Bytes s.out := (h.bb.append h.pb).append (fix_bytes _ _)
theorem Laid.out_len {M : Nat} {l : List S68} {s : St} (h : Laid M l s) : s.out.length = s.b.length + s.p.length + 4 := by simp only [St.out, List.length_append, fix_length]
theorem Laid.read {M : Nat} {l : List S68} {s : St} (h : Laid M l s) (hl : l.length < 1000000) : readS s.out = some l := by
  have := h.pl
  have hr := readS_out l h.fit (by rw [h.all]) (by rw [← h.ts]; omega)
  rwa [← h.ts] at hr
/-! texts of two letters -/
def two (i : Nat) : ByteArray := strOfNums [97 + (i : Int) / 26, 97 + (i : Int) % 26]
theorem toList_app (a b : ByteArray) : (a ++ b).toList = a.toList ++ b.toList := by
  rw [Lib.toList_data, Lib.toList_data, Lib.toList_data, ByteArray.data_append, Array.toList_append]
theorem bl_app : ∀ (p a b : List UInt8), Op.bytesLess (p ++ a) (p ++ b) = Op.bytesLess a b
  | [], a, b => rfl
  | x :: p, a, b => by
    rw [List.cons_append, List.cons_append]
    simp only [Op.bytesLess, UInt8.lt_irrefl, if_false, if_true, decide_false, Bool.false_or, beq_self_eq_true, Bool.true_and, bl_app p a b]
theorem two_list (i : Nat) (h : i < 200) : (two i).toList = [UInt8.ofNat (97 + i / 26), UInt8.ofNat (97 + i % 26)] := by
  rw [Lib.toList_data]
  unfold two strOfNums
  simp only [List.map_cons, List.map_nil]
  rw [show (97 + (i : Int) / 26).toNat = 97 + i / 26 by omega, show (97 + (i : Int) % 26).toNat = 97 + i % 26 by omega]
theorem u8lt {a b : Nat} (ha : a < 256) (hb : b < 256) : (UInt8.ofNat a < UInt8.ofNat b) ↔ a < b := by
  rw [UInt8.lt_iff_toNat_lt, UInt8.toNat_ofNat', UInt8.toNat_ofNat', Nat.mod_eq_of_lt ha, Nat.mod_eq_of_lt hb]
theorem u8eq {a b : Nat} (ha : a < 256) (hb : b < 256) : (UInt8.ofNat a = UInt8.ofNat b) ↔ a = b := by
  rw [← UInt8.toNat_inj, UInt8.toNat_ofNat', UInt8.toNat_ofNat', Nat.mod_eq_of_lt ha, Nat.mod_eq_of_lt hb]
theorem bl_two (i j : Nat) (hi : i < 200) (hj : j < 200) (u : List UInt8) : Op.bytesLess (two i).toList ((two j).toList ++ u) = decide (i < j ∨ (i = j ∧ u ≠ [])) := by
  rw [two_list i hi, two_list j hj]
  have h1 := u8lt (a := 97 + i / 26) (b := 97 + j / 26) (by omega) (by omega)
  have h2 := u8lt (a := 97 + i % 26) (b := 97 + j % 26) (by omega) (by omega)
  have h3 := u8eq (a := 97 + i / 26) (b := 97 + j / 26) (by omega) (by omega)
  have h4 := u8eq (a := 97 + i % 26) (b := 97 + j % 26) (by omega) (by omega)
  rw [Bool.eq_iff_iff]
  cases u with
  | nil =>
    simp only [List.cons_append, List.nil_append, Op.bytesLess, Bool.or_eq_true, Bool.and_eq_true, decide_eq_true_eq, beq_iff_eq, h1, h2, h3, h4, Bool.false_eq_true, and_false, or_false, ne_eq, not_true_eq_false]
    omega
  | cons x t =>
    simp only [List.cons_append, List.nil_append, Op.bytesLess, Bool.or_eq_true, Bool.and_eq_true, decide_eq_true_eq, beq_iff_eq, h1, h2, h3, h4, and_true, ne_eq, reduceCtorEq, not_false_eq_true]
    omega
theorem two_size (i : Nat) : (two i).size = 2 := rfl
/-- Keys with one beginning and two letters behind it. -/
def keyP (p : ByteArray) (i : Nat) : ByteArray := p ++ two i
theorem bl_keyP (p : ByteArray) (i j : Nat) (hi : i < 200) (hj : j < 200) (x : ByteArray) : Op.bytesLess (keyP p i).toList (keyP p j ++ x).toList = decide (i < j ∨ (i = j ∧ x.toList ≠ [])) := by
  unfold keyP
  rw [toList_app, toList_app, toList_app, List.append_assoc, bl_app, bl_two i j hi hj]
theorem bl_keyP0 (p : ByteArray) (i j : Nat) (hi : i < 200) (hj : j < 200) : Op.bytesLess (keyP p i).toList (keyP p j).toList = decide (i < j) := by
  have := bl_keyP p i j hi hj ⟨#[]⟩
  rw [show keyP p j ++ (⟨#[]⟩ : ByteArray) = keyP p j from ByteArray.append_empty] at this
  rw [this]
  have h0 : (⟨#[]⟩ : ByteArray).toList = [] := by rw [Lib.toList_data]
  simp [h0]
def rowP (p v : ByteArray) (i : Nat) : S68 := ⟨keyP p i, v⟩
def rowsP (p v : ByteArray) (n : Nat) : List S68 := (List.range n).map (rowP p v)
theorem rowsP_succ (p v : ByteArray) (n : Nat) : rowsP p v (n + 1) = rowsP p v n ++ [rowP p v n] := by
  unfold rowsP
  rw [List.range_succ, List.map_append, List.map_singleton]
theorem rowsP_length (p v : ByteArray) (n : Nat) : (rowsP p v n).length = n := by simp [rowsP]
/-- The next key goes in. -/
theorem addB_P {M : Nat} {p v : ByteArray} {n : Nat} {s : St} (h : Laid M (rowsP p v n) s) (hn : n < 199) : addB s (keyP p n) = true := by
  unfold addB
  cases n with
  | zero => rw [h.rows]; rfl
  | succ n =>
    have hl : s.last = keyP p n := by
      rw [h.ts, rowsP_succ, addTs_app]; rfl
    rw [hl, bl_keyP0 p n (n + 1) (by omega) (by omega)]
    simp
theorem seekI_P (p v key : ByteArray) (m : Nat) (n : Nat) (h : ∀ i, i < n → Op.bytesLess (keyP p i).toList key.toList = decide (i < m)) : ∀ (k s : Nat), s + k = n → seekI ((List.range' s k).map (rowP p v)) key = min k (m - s)
  | 0, s, _ => by simp [seekI]
  | k + 1, s, hs => by
    rw [List.range'_succ, List.map_cons, seekI, show (rowP p v s).f0 = keyP p s from rfl, h s (by omega)]
    by_cases hm : s < m
    · rw [if_pos (decide_eq_true hm), seekI_P p v key m n h k (s + 1) (by omega)]
      omega
    · rw [if_neg (by simpa using hm)]
      omega
theorem seekI_rows (p v key : ByteArray) (m n : Nat) (h : ∀ i, i < n → Op.bytesLess (keyP p i).toList key.toList = decide (i < m)) : seekI (rowsP p v n) key = min n m := by
  have := seekI_P p v key m n h n 0 (by omega)
  rwa [Nat.sub_zero, ← List.range_eq_range'] at this
end Go.Proofs.Ytoglanahjlfihaa.QBlk
