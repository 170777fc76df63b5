/- Sums: what crc.More, crc.Sum and the reference's Sum come to. -/
import Derived.Test.YtcijcfdllfaghaaMRecx1
import Derived.Test.YtcijcfdllfaghaaMRecx4
import Derived.Test.YtcijcfdllfaghaaQRecBytes
namespace Go.Proofs.Ytcijcfdllfaghaa.QRec
open Go.RowKit Go.Proofs.Ytcijcfdllfaghaa.MRec Go.Proofs.Ytcijcfdllfaghaa.QRec Go.Proofs.YtcijcfdllfaghaaW.PrintWords Go.Proofs.YtcijcfdllfaghaaW.PrintLast Go.Proofs.YtcijcfdllfaghaaW.PrintMore
set_option linter.unusedVariables false
set_option linter.unusedSimpArgs false
/-! ### bits -/
theorem bits_xor_nat (k : IntKind) (hk : ∀ n : Int, 0 ≤ n → n < 2 ^ k.bits → k.wrap n = n) (a b : Nat) (ha : a < 2 ^ k.bits) (hb : b < 2 ^ k.bits) : Go.bits .xor k a b = ((a ^^^ b : Nat) : Int) := by
  have ha' : a % 2 ^ k.bits = a := Nat.mod_eq_of_lt ha
  have hb' : b % 2 ^ k.bits = b := Nat.mod_eq_of_lt hb
  simp only [Go.bits, BitVec.ofInt_natCast, BitVec.toNat_xor, BitVec.toNat_ofNat, ha', hb']
  exact hk _ (Int.natCast_nonneg _) (by exact_mod_cast Nat.xor_lt_two_pow ha hb)
theorem u32w (n : Int) (h0 : 0 ≤ n) (h1 : n < 2 ^ 32) : IntKind.u32.wrap n = n := by rw [IntKind.wrap_u32]; omega
theorem u8w (n : Int) (h0 : 0 ≤ n) (h1 : n < 2 ^ 8) : IntKind.u8.wrap n = n := by rw [IntKind.wrap_u8]; omega
theorem xor32 {a b : Nat} (ha : a < 4294967296) (hb : b < 4294967296) : Go.bits .xor .u32 (a : Int) (b : Int) = ((a ^^^ b : Nat) : Int) := bits_xor_nat .u32 u32w a b ha hb
theorem xor8 {a b : Nat} (ha : a < 256) (hb : b < 256) : Go.bits .xor .u8 (a : Int) (b : Int) = ((a ^^^ b : Nat) : Int) := bits_xor_nat .u8 u8w a b ha hb
theorem and32 {a b : Nat} (ha : a < 4294967296) (hb : b < 4294967296) : Go.bits .and .u32 (a : Int) (b : Int) = ((a &&& b : Nat) : Int) := (bits_nat .u32 32 (by decide) u32w a b ha hb).1
theorem xor_lt {a b : Nat} (ha : a < 4294967296) (hb : b < 4294967296) : a ^^^ b < 4294967296 := Nat.xor_lt_two_pow (n := 32) ha hb

def poly : Nat := 2197175160
/-- One bit of the sum. -/
def sb (x : Nat) : Nat := (x / 2) ^^^ (if x % 2 = 1 then poly else 0)
theorem sb_lt {x : Nat} (h : x < 4294967296) : sb x < 4294967296 := by
  unfold sb; refine xor_lt (by omega) ?_
  split <;> decide

theorem sb_mine {x : Nat} (h : x < 4294967296) : Go.bits .xor .u32 ((x : Int) / 2) (Go.bits .and .u32 2197175160 ((-(Go.bits .and .u32 (x : Int) 1)) % 4294967296)) = (sb x : Int) := by
  have e1 : Go.bits .and .u32 (x : Int) 1 = ((x % 2 : Nat) : Int) := by
    have := and32 (b := 1) h (by decide)
    rw [Nat.and_one_is_mod] at this
    exact this
  rw [e1, show ((x : Int) / 2) = ((x / 2 : Nat) : Int) by omega]
  unfold sb
  by_cases hp : x % 2 = 1
  · rw [if_pos hp, hp, show ((-((1 : Nat) : Int)) % 4294967296) = ((4294967295 : Nat) : Int) by decide]
    have := and32 (a := 2197175160) (b := 4294967295) (by decide) (by decide)
    rw [show ((2197175160 : Nat) : Int) = 2197175160 by omega] at this
    rw [this, xor32 (by omega) (by decide)]
    rfl
  · rw [if_neg hp, show x % 2 = 0 by omega, show ((-((0 : Nat) : Int)) % 4294967296) = ((0 : Nat) : Int) by decide]
    have := and32 (a := 2197175160) (b := 0) (by decide) (by decide)
    rw [show ((2197175160 : Nat) : Int) = 2197175160 by omega] at this
    rw [this, xor32 (by omega) (by decide)]
    rfl

def it : Nat → Nat → Nat
  | 0, x => x
  | n + 1, x => it n (sb x)
theorem it_lt : ∀ (n : Nat) {x : Nat}, x < 4294967296 → it n x < 4294967296
  | 0, _, h => h
  | n + 1, _, h => it_lt n (sb_lt h)

/-- The sum's state, with bytes behind it. -/
def fold (s : Nat) (l : List Int) : Nat := l.foldl (fun s v => it 8 (s ^^^ v.toNat)) s
theorem fold_append (s : Nat) (l m : List Int) : fold s (l ++ m) = fold (fold s l) m := by unfold fold; rw [List.foldl_append]
theorem fold_lt : ∀ (l : List Int) {s : Nat}, Bytes l → s < 4294967296 → fold s l < 4294967296
  | [], _, _, h => h
  | c :: t, s, hb, h => by
    have hc := hb c (List.mem_cons_self ..)
    exact fold_lt t (fun x hx => hb x (List.mem_cons_of_mem _ hx)) (it_lt 8 (xor_lt h (by omega)))
theorem drop_getD (l : List Int) (i : Nat) (h : i < l.length) : l.drop i = l.getD i 0 :: l.drop (i + 1) := by
  rw [List.drop_eq_getElem_cons h, List.getD_eq_getElem?_getD, List.getElem?_eq_getElem h]; rfl

def neg (s : Nat) : Nat := 4294967295 ^^^ s
theorem neg_def (s : Nat) : neg s = 4294967295 ^^^ s := rfl
theorem xor_cancel (m s : Nat) : m ^^^ (m ^^^ s) = s := by rw [← Nat.xor_assoc, Nat.xor_self, Nat.zero_xor]
theorem neg_lt {s : Nat} (h : s < 4294967296) : neg s < 4294967296 := by rw [neg_def]; exact xor_lt (by omega) h
theorem neg_neg (s : Nat) : neg (neg s) = s := by rw [neg_def, neg_def, xor_cancel]
theorem fold_nil (s : Nat) : fold s [] = s := rfl
theorem neg_int {s : Nat} (h : s < 4294967296) : Go.bits .xor .u32 4294967295 (s : Int) = (neg s : Int) := by
  have := xor32 (a := 4294967295) (by omega) h
  rw [show ((4294967295 : Nat) : Int) = 4294967295 by omega] at this
  rw [neg_def]; exact this

theorem More_l0 (l : List Int) (hb : Bytes l) (hl : l.length ≤ 4611686018427387904) (d : Nat) : ∀ (i s : Nat), l.length - i = d → i ≤ l.length → s < 4294967296 → Ev (fun k => crc_More.l0 k (s : Int) l (l.length : Int) (i : Int)) (neg (fold s (l.drop i)) : Int) := by
  induction d with
  | zero =>
    intro i s hd hi hs
    refine Ev.succ ?_
    simp only [crc_More.l0]
    refine Ev.ite_neg (by omega) ?_
    rw [List.drop_of_length_le (by omega)]
    rw [fold_nil, neg_int hs]
    exact Ev.now _
  | succ d ih =>
    intro i s hd hi hs
    have hlt : i < l.length := by omega
    have hg := hb.getD i
    refine Ev.succ ?_
    simp only [crc_More.l0]
    refine Ev.ite_pos (by omega) (Ev.ite_pos (by omega) (Ev.ite_pos (by omega) ?_))
    rw [rd_nat, drop_getD l i hlt]
    generalize l.getD i 0 = c at *
    obtain ⟨v, rfl⟩ := Int.eq_ofNat_of_zero_le hg.1
    rw [show (v : Int) % 4294967296 = ((v : Nat) : Int) by omega, xor32 hs (by omega)]
    have hin : ∀ (m j x : Nat), m + j = 8 → x < 4294967296 → it m x = it 8 (s ^^^ v) → Ev (fun k => crc_More.l1 k (x : Int) l (l.length : Int) (i : Int) (j : Int)) (neg (fold (it 8 (s ^^^ v)) (l.drop (i + 1))) : Int) := by
      intro m
      induction m with
      | zero =>
        intro j x hj hx e
        refine Ev.succ ?_
        simp only [crc_More.l1]
        refine Ev.ite_neg (by omega) ?_
        rw [wrap64_id (by omega) (by omega), ← e]
        exact ih (i + 1) x (by omega) (by omega) hx
      | succ m ihm =>
        intro j x hj hx e
        refine Ev.succ ?_
        simp only [crc_More.l1]
        refine Ev.ite_pos (by omega) ?_
        rw [wrap64_id (by omega) (by omega), sb_mine hx]
        exact ihm (j + 1) (sb x) (by omega) (sb_lt hx) e
    exact hin 8 0 (s ^^^ v) rfl (xor_lt hs (by omega)) rfl

theorem More_ev {l : List Int} (hb : Bytes l) (hl : l.length ≤ 4611686018427387904) {c : Nat} (hc : c < 4294967296) : Ev (fun k => crc_More.f k (c : Int) l) (neg (fold (neg c) l) : Int) := by
  have := More_l0 l hb hl _ 0 (neg c) rfl (by omega) (neg_lt hc)
  unfold crc_More.f
  rw [neg_int hc]
  exact this

def sum (l : List Int) : Nat := neg (fold 4294967295 l)
theorem Sum_ev {l : List Int} (hb : Bytes l) (hl : l.length ≤ 4611686018427387904) : Ev (fun k => crc_Sum.f k l) (sum l : Int) := by
  have := More_ev hb hl (c := 0) (by decide)
  unfold crc_Sum.f
  exact Ev.bind this (Ev.now _)
theorem sum_lt {l : List Int} (hb : Bytes l) : sum l < 4294967296 := neg_lt (fold_lt l hb (by decide))

theorem rSum_l0 (l : List Int) (hb : Bytes l) (hl : l.length ≤ 4611686018427387904) (d : Nat) : ∀ (i s : Nat), l.length - i = d → i ≤ l.length → s < 4294967296 → Ev (fun k => incipitref1_Sum.l0 k l (s : Int) (i : Int)) (neg (fold s (l.drop i)) : Int) := by
  induction d with
  | zero =>
    intro i s hd hi hs
    refine Ev.succ ?_
    simp only [incipitref1_Sum.l0]
    refine Ev.ite_neg (by omega) ?_
    rw [List.drop_of_length_le (by omega)]
    rw [fold_nil, neg_int hs]
    exact Ev.now _
  | succ d ih =>
    intro i s hd hi hs
    have hlt : i < l.length := by omega
    have hg := hb.getD i
    refine Ev.succ ?_
    simp only [incipitref1_Sum.l0]
    refine Ev.ite_pos (by omega) (Ev.ite_pos (by omega) ?_)
    rw [rd_nat, drop_getD l i hlt]
    generalize l.getD i 0 = c at *
    obtain ⟨v, rfl⟩ := Int.eq_ofNat_of_zero_le hg.1
    rw [show (v : Int) % 4294967296 = ((v : Nat) : Int) by omega, xor32 hs (by omega)]
    have hin : ∀ (m j x : Nat), m + j = 8 → x < 4294967296 → it m x = it 8 (s ^^^ v) → Ev (fun k => incipitref1_Sum.l1 k l (x : Int) (i : Int) (j : Int)) (neg (fold (it 8 (s ^^^ v)) (l.drop (i + 1))) : Int) := by
      intro m
      induction m with
      | zero =>
        intro j x hj hx e
        refine Ev.succ ?_
        simp only [incipitref1_Sum.l1]
        refine Ev.ite_neg (by omega) ?_
        rw [wrap64_id (by omega) (by omega), ← e]
        exact ih (i + 1) x (by omega) (by omega) hx
      | succ m ihm =>
        intro j x hj hx e
        have ht : Int.tmod (x : Int) 2 = ((x % 2 : Nat) : Int) := by rw [Int.tmod_eq_emod_of_nonneg (by omega)]; omega
        have hs2 : ((x : Int) / 2) = ((x / 2 : Nat) : Int) := by omega
        refine Ev.succ ?_
        simp only [incipitref1_Sum.l1]
        refine Ev.ite_pos (by omega) ?_
        rw [wrap64_id (by omega) (by omega), ht, hs2]
        have hr := ihm (j + 1) (sb x) (by omega) (sb_lt hx) e
        by_cases hp : x % 2 = 1
        · refine Ev.ite_pos (by omega) ?_
          have e2 := xor32 (a := x / 2) (b := 2197175160) (by omega) (by decide)
          rw [show ((2197175160 : Nat) : Int) = 2197175160 by omega] at e2
          rw [e2, show x / 2 ^^^ 2197175160 = sb x by unfold sb; rw [if_pos hp]; rfl]
          exact hr
        · refine Ev.ite_neg (by omega) ?_
          rw [show x / 2 = sb x by unfold sb; rw [if_neg hp, Nat.xor_zero]]
          exact hr
    exact hin 8 0 (s ^^^ v) rfl (xor_lt hs (by omega)) rfl

theorem rSum_ev {l : List Int} (hb : Bytes l) (hl : l.length ≤ 4611686018427387904) : Ev (fun k => incipitref1_Sum.f k l) (sum l : Int) :=
  rSum_l0 l hb hl _ 0 4294967295 rfl (by omega) (by decide)
end Go.Proofs.Ytcijcfdllfaghaa.QRec
