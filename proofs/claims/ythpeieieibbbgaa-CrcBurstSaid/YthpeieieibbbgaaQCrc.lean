/- Plain facts on sums: what crc.More, crc.Sum and the reference's Sum come to; a changed byte, or up to four of them, change the sum. No conditions beyond those of each lemma. -/
import Derived.Test.YthpeieieibbbgaaMCrcx2
namespace Go.Proofs.Ythpeieieibbbgaa.QCrc
open Go.RowKit Go.Proofs.Ythpeieieibbbgaa.MCrc Go.Proofs.YthpeieieibbbgaaW.PrintWords Go.Proofs.YthpeieieibbbgaaW.PrintLast Go.Proofs.YthpeieieibbbgaaW.PrintMore

theorem wrap64_id {n : Int} (h0 : -9223372036854775808 ≤ n) (h1 : n ≤ 9223372036854775807) : wrap64 n = n := by
  unfold wrap64; omega
theorem Ev.ite_pos {α : Type} {c : Prop} [Decidable c] {a b : Nat → Option α} {r : α} (hc : c) (h : Ev a r) : Ev (fun k => if c then a k else b k) r :=
  Ev.congr (fun _ => if_pos hc) h
theorem Ev.ite_neg {α : Type} {c : Prop} [Decidable c] {a b : Nat → Option α} {r : α} (hc : ¬ c) (h : Ev b r) : Ev (fun k => if c then a k else b k) r :=
  Ev.congr (fun _ => if_neg hc) h
theorem Ev.succ {α : Type} {g : Nat → Option α} {r : α} (h : Ev (fun k => g (k + 1)) r) : Ev g r := Ev.step (fun _ => rfl) h
theorem rd_nat (l : List Int) (i : Nat) : rd l (i : Int) = l.getD i 0 := by unfold rd; rw [Int.toNat_natCast]

def Bytes (l : List Int) : Prop := ∀ c ∈ l, 0 ≤ c ∧ c < 256
theorem Bytes.getD {l : List Int} (h : Bytes l) (i : Nat) : 0 ≤ l.getD i 0 ∧ l.getD i 0 < 256 := by
  rw [List.getD_eq_getElem?_getD]
  by_cases hi : i < l.length
  · rw [List.getElem?_eq_getElem hi]; exact h _ (List.getElem_mem hi)
  · rw [List.getElem?_eq_none (by omega)]; decide
theorem Bytes.take {l : List Int} (h : Bytes l) (n : Nat) : Bytes (l.take n) := fun c hc => h c (List.mem_of_mem_take hc)
theorem Bytes.append {l m : List Int} (h : Bytes l) (k : Bytes m) : Bytes (l ++ m) := fun c hc => by
  rcases List.mem_append.1 hc with hc | hc
  · exact h c hc
  · exact k c hc
theorem bytes_of_wf {l : List Int} (h : ∀ x ∈ l, (Lit.int .u8 x).wf = true) : Bytes l := fun c hc => by
  have := h c hc
  simp [Lit.wf, IntKind.min, IntKind.max, IntKind.signed, IntKind.bits] at this
  omega

/-! ### bits -/
theorem bits_xor_nat (k : IntKind) (hk : ∀ n : Int, 0 ≤ n → n < 2 ^ k.bits → k.wrap n = n) (a b : Nat) (ha : a < 2 ^ k.bits) (hb : b < 2 ^ k.bits) : Go.bits .xor k a b = ((a ^^^ b : Nat) : Int) := by
  have ha' : a % 2 ^ k.bits = a := Nat.mod_eq_of_lt ha
  have hb' : b % 2 ^ k.bits = b := Nat.mod_eq_of_lt hb
  simp only [Go.bits, BitVec.ofInt_natCast, BitVec.toNat_xor, BitVec.toNat_ofNat, ha', hb']
  exact hk _ (Int.natCast_nonneg _) (by exact_mod_cast Nat.xor_lt_two_pow ha hb)
theorem u32w (n : Int) (h0 : 0 ≤ n) (h1 : n < 2 ^ 32) : IntKind.u32.wrap n = n := by rw [IntKind.wrap_u32]; omega
theorem u8w (n : Int) (h0 : 0 ≤ n) (h1 : n < 2 ^ 8) : IntKind.u8.wrap n = n := by rw [IntKind.wrap_u8]; omega
theorem xor32 {a b : Nat} (ha : a < 4294967296) (hb : b < 4294967296) : Go.bits .xor .u32 (a : Int) (b : Int) = ((a ^^^ b : Nat) : Int) := bits_xor_nat .u32 u32w a b ha hb
theorem xor8 {a b : Nat} (ha : a < 256) (hb : b < 256) : Go.bits .xor .u8 (a : Int) (b : Int) = ((a ^^^ b : Nat) : Int) := bits_xor_nat .u8 u8w a b ha hb
theorem and32 {a b : Nat} (ha : a < 4294967296) (hb : b < 4294967296) : Go.bits .and .u32 (a : Int) (b : Int) = ((a &&& b : Nat) : Int) := (bits_nat .u32 32 (by decide) u32w a b ha hb).1
theorem xor_lt {a b : Nat} (ha : a < 4294967296) (hb : b < 4294967296) : a ^^^ b < 4294967296 := Nat.xor_lt_two_pow (n := 32) ha hb

def poly : Nat := 2197175160
/-- One bit of the sum. -/
def sb (x : Nat) : Nat := (x / 2) ^^^ (if x % 2 = 1 then poly else 0)
theorem sb_lt {x : Nat} (h : x < 4294967296) : sb x < 4294967296 := by
  unfold sb; refine xor_lt (by omega) ?_
  split <;> decide

theorem sb_mine {x : Nat} (h : x < 4294967296) : Go.bits .xor .u32 ((x : Int) / 2) (Go.bits .and .u32 2197175160 ((-(Go.bits .and .u32 (x : Int) 1)) % 4294967296)) = (sb x : Int) := by
  have e1 : Go.bits .and .u32 (x : Int) 1 = ((x % 2 : Nat) : Int) := by
    have := and32 (b := 1) h (by decide)
    rw [Nat.and_one_is_mod] at this
    exact this
  rw [e1, show ((x : Int) / 2) = ((x / 2 : Nat) : Int) by omega]
  unfold sb
  by_cases hp : x % 2 = 1
  · rw [if_pos hp, hp, show ((-((1 : Nat) : Int)) % 4294967296) = ((4294967295 : Nat) : Int) by decide]
    have := and32 (a := 2197175160) (b := 4294967295) (by decide) (by decide)
    rw [show ((2197175160 : Nat) : Int) = 2197175160 by omega] at this
    rw [this, xor32 (by omega) (by decide)]
    rfl
  · rw [if_neg hp, show x % 2 = 0 by omega, show ((-((0 : Nat) : Int)) % 4294967296) = ((0 : Nat) : Int) by decide]
    have := and32 (a := 2197175160) (b := 0) (by decide) (by decide)
    rw [show ((2197175160 : Nat) : Int) = 2197175160 by omega] at this
    rw [this, xor32 (by omega) (by decide)]
    rfl

def it : Nat → Nat → Nat
  | 0, x => x
  | n + 1, x => it n (sb x)
theorem it_lt : ∀ (n : Nat) {x : Nat}, x < 4294967296 → it n x < 4294967296
  | 0, _, h => h
  | n + 1, _, h => it_lt n (sb_lt h)

/-- The sum's state, with bytes behind it. -/
def fold (s : Nat) (l : List Int) : Nat := l.foldl (fun s v => it 8 (s ^^^ v.toNat)) s
theorem fold_append (s : Nat) (l m : List Int) : fold s (l ++ m) = fold (fold s l) m := by unfold fold; rw [List.foldl_append]
theorem fold_lt : ∀ (l : List Int) {s : Nat}, Bytes l → s < 4294967296 → fold s l < 4294967296
  | [], _, _, h => h
  | c :: t, s, hb, h => by
    have hc := hb c (List.mem_cons_self ..)
    exact fold_lt t (fun x hx => hb x (List.mem_cons_of_mem _ hx)) (it_lt 8 (xor_lt h (by omega)))
theorem drop_getD (l : List Int) (i : Nat) (h : i < l.length) : l.drop i = l.getD i 0 :: l.drop (i + 1) := by
  rw [List.drop_eq_getElem_cons h, List.getD_eq_getElem?_getD, List.getElem?_eq_getElem h]; rfl

def neg (s : Nat) : Nat := 4294967295 ^^^ s
theorem neg_def (s : Nat) : neg s = 4294967295 ^^^ s := rfl
theorem xor_cancel (m s : Nat) : m ^^^ (m ^^^ s) = s := by rw [← Nat.xor_assoc, Nat.xor_self, Nat.zero_xor]
theorem neg_lt {s : Nat} (h : s < 4294967296) : neg s < 4294967296 := by rw [neg_def]; exact xor_lt (by omega) h
theorem neg_neg (s : Nat) : neg (neg s) = s := by rw [neg_def, neg_def, xor_cancel]
theorem fold_nil (s : Nat) : fold s [] = s := rfl
theorem neg_int {s : Nat} (h : s < 4294967296) : Go.bits .xor .u32 4294967295 (s : Int) = (neg s : Int) := by
  have := xor32 (a := 4294967295) (by omega) h
  rw [show ((4294967295 : Nat) : Int) = 4294967295 by omega] at this
  rw [neg_def]; exact this

theorem More_l0 (l : List Int) (hb : Bytes l) (hl : l.length ≤ 4611686018427387904) (d : Nat) : ∀ (i s : Nat), l.length - i = d → i ≤ l.length → s < 4294967296 → Ev (fun k => crc_More.l0 k (s : Int) l (l.length : Int) (i : Int)) (neg (fold s (l.drop i)) : Int) := by
  induction d with
  | zero =>
    intro i s hd hi hs
    refine Ev.succ ?_
    simp only [crc_More.l0]
    refine Ev.ite_neg (by omega) ?_
    rw [List.drop_of_length_le (by omega)]
    rw [fold_nil, neg_int hs]
    exact Ev.now _
  | succ d ih =>
    intro i s hd hi hs
    have hlt : i < l.length := by omega
    have hg := hb.getD i
    refine Ev.succ ?_
    simp only [crc_More.l0]
    refine Ev.ite_pos (by omega) (Ev.ite_pos (by omega) (Ev.ite_pos (by omega) ?_))
    rw [rd_nat, drop_getD l i hlt]
    generalize l.getD i 0 = c at *
    obtain ⟨v, rfl⟩ := Int.eq_ofNat_of_zero_le hg.1
    rw [show (v : Int) % 4294967296 = ((v : Nat) : Int) by omega, xor32 hs (by omega)]
    have hin : ∀ (m j x : Nat), m + j = 8 → x < 4294967296 → it m x = it 8 (s ^^^ v) → Ev (fun k => crc_More.l1 k (x : Int) l (l.length : Int) (i : Int) (j : Int)) (neg (fold (it 8 (s ^^^ v)) (l.drop (i + 1))) : Int) := by
      intro m
      induction m with
      | zero =>
        intro j x hj hx e
        refine Ev.succ ?_
        simp only [crc_More.l1]
        refine Ev.ite_neg (by omega) ?_
        rw [wrap64_id (by omega) (by omega), ← e]
        exact ih (i + 1) x (by omega) (by omega) hx
      | succ m ihm =>
        intro j x hj hx e
        refine Ev.succ ?_
        simp only [crc_More.l1]
        refine Ev.ite_pos (by omega) ?_
        rw [wrap64_id (by omega) (by omega), sb_mine hx]
        exact ihm (j + 1) (sb x) (by omega) (sb_lt hx) e
    exact hin 8 0 (s ^^^ v) rfl (xor_lt hs (by omega)) rfl

theorem More_ev {l : List Int} (hb : Bytes l) (hl : l.length ≤ 4611686018427387904) {c : Nat} (hc : c < 4294967296) : Ev (fun k => crc_More.f k (c : Int) l) (neg (fold (neg c) l) : Int) := by
  have := More_l0 l hb hl _ 0 (neg c) rfl (by omega) (neg_lt hc)
  unfold crc_More.f
  rw [neg_int hc]
  exact this

def sum (l : List Int) : Nat := neg (fold 4294967295 l)
theorem Sum_ev {l : List Int} (hb : Bytes l) (hl : l.length ≤ 4611686018427387904) : Ev (fun k => crc_Sum.f k l) (sum l : Int) := by
  have := More_ev hb hl (c := 0) (by decide)
  unfold crc_Sum.f
  exact Ev.bind this (Ev.now _)
theorem sum_lt {l : List Int} (hb : Bytes l) : sum l < 4294967296 := neg_lt (fold_lt l hb (by decide))

theorem rSum_l0 (l : List Int) (hb : Bytes l) (hl : l.length ≤ 4611686018427387904) (d : Nat) : ∀ (i s : Nat), l.length - i = d → i ≤ l.length → s < 4294967296 → Ev (fun k => incipitref1_Sum.l0 k l (s : Int) (i : Int)) (neg (fold s (l.drop i)) : Int) := by
  induction d with
  | zero =>
    intro i s hd hi hs
    refine Ev.succ ?_
    simp only [incipitref1_Sum.l0]
    refine Ev.ite_neg (by omega) ?_
    rw [List.drop_of_length_le (by omega)]
    rw [fold_nil, neg_int hs]
    exact Ev.now _
  | succ d ih =>
    intro i s hd hi hs
    have hlt : i < l.length := by omega
    have hg := hb.getD i
    refine Ev.succ ?_
    simp only [incipitref1_Sum.l0]
    refine Ev.ite_pos (by omega) (Ev.ite_pos (by omega) ?_)
    rw [rd_nat, drop_getD l i hlt]
    generalize l.getD i 0 = c at *
    obtain ⟨v, rfl⟩ := Int.eq_ofNat_of_zero_le hg.1
    rw [show (v : Int) % 4294967296 = ((v : Nat) : Int) by omega, xor32 hs (by omega)]
    have hin : ∀ (m j x : Nat), m + j = 8 → x < 4294967296 → it m x = it 8 (s ^^^ v) → Ev (fun k => incipitref1_Sum.l1 k l (x : Int) (i : Int) (j : Int)) (neg (fold (it 8 (s ^^^ v)) (l.drop (i + 1))) : Int) := by
      intro m
      induction m with
      | zero =>
        intro j x hj hx e
        refine Ev.succ ?_
        simp only [incipitref1_Sum.l1]
        refine Ev.ite_neg (by omega) ?_
        rw [wrap64_id (by omega) (by omega), ← e]
        exact ih (i + 1) x (by omega) (by omega) hx
      | succ m ihm =>
        intro j x hj hx e
        have ht : Int.tmod (x : Int) 2 = ((x % 2 : Nat) : Int) := by rw [Int.tmod_eq_emod_of_nonneg (by omega)]; omega
        have hs2 : ((x : Int) / 2) = ((x / 2 : Nat) : Int) := by omega
        refine Ev.succ ?_
        simp only [incipitref1_Sum.l1]
        refine Ev.ite_pos (by omega) ?_
        rw [wrap64_id (by omega) (by omega), ht, hs2]
        have hr := ihm (j + 1) (sb x) (by omega) (sb_lt hx) e
        by_cases hp : x % 2 = 1
        · refine Ev.ite_pos (by omega) ?_
          have e2 := xor32 (a := x / 2) (b := 2197175160) (by omega) (by decide)
          rw [show ((2197175160 : Nat) : Int) = 2197175160 by omega] at e2
          rw [e2, show x / 2 ^^^ 2197175160 = sb x by unfold sb; rw [if_pos hp]; rfl]
          exact hr
        · refine Ev.ite_neg (by omega) ?_
          rw [show x / 2 = sb x by unfold sb; rw [if_neg hp, Nat.xor_zero]]
          exact hr
    exact hin 8 0 (s ^^^ v) rfl (xor_lt hs (by omega)) rfl

theorem rSum_ev {l : List Int} (hb : Bytes l) (hl : l.length ≤ 4611686018427387904) : Ev (fun k => incipitref1_Sum.f k l) (sum l : Int) :=
  rSum_l0 l hb hl _ 0 4294967295 rfl (by omega) (by decide)

theorem begun_ev : Ev (fun k => incipitlaw9_begun.f k) true := Ev.of incipitlaw9_begun.mono (k := 100) (by decide +kernel)

/-! ### the sum is linear, and no bit is lost -/
theorem xor_zero_eq {x y : Nat} (h : x ^^^ y = 0) : x = y := by
  have := congrArg (· ^^^ y) h
  simpa only [Nat.xor_assoc, Nat.xor_self, Nat.xor_zero, Nat.zero_xor] using this
theorem sb_xor (x y : Nat) : sb (x ^^^ y) = sb x ^^^ sb y := by
  unfold sb
  have h2 : (x ^^^ y) / 2 = x / 2 ^^^ y / 2 := by
    have := Nat.shiftRight_xor_distrib (a := x) (b := y) (i := 1)
    simpa [Nat.shiftRight_eq_div_pow] using this
  have hm : (x ^^^ y) % 2 = (x % 2 + y % 2) % 2 := by
    have h := @Nat.xor_mod_two_eq_one x y
    omega
  rw [h2, hm]
  rcases Nat.mod_two_eq_zero_or_one x with hx | hx <;> rcases Nat.mod_two_eq_zero_or_one y with hy | hy <;> simp only [hx, hy] <;> simp
  · rw [Nat.xor_assoc]
  · rw [Nat.xor_assoc, Nat.xor_comm (y / 2) poly, ← Nat.xor_assoc]
  · rw [Nat.xor_assoc, ← Nat.xor_assoc poly, Nat.xor_comm poly, Nat.xor_assoc (y / 2), Nat.xor_self, Nat.xor_zero]

theorem sb_zero_inv {z : Nat} (hz : z < 4294967296) (h : sb z = 0) : z = 0 := by
  unfold sb at h
  have h' := xor_zero_eq h
  by_cases hp : z % 2 = 1
  · rw [if_pos hp] at h'; unfold poly at h'; omega
  · rw [if_neg hp] at h'; omega

theorem it_xor : ∀ (n x y : Nat), it n (x ^^^ y) = it n x ^^^ it n y
  | 0, _, _ => rfl
  | n + 1, x, y => by simp only [it]; rw [sb_xor, it_xor n]
theorem it_zero_inv : ∀ (n : Nat) {z : Nat}, z < 4294967296 → it n z = 0 → z = 0
  | 0, _, _, h => h
  | n + 1, _, hz, h => sb_zero_inv hz (it_zero_inv n (sb_lt hz) h)

theorem fold_inj : ∀ (l : List Int) {s t : Nat}, Bytes l → s < 4294967296 → t < 4294967296 → fold s l = fold t l → s = t
  | [], _, _, _, _, _, h => h
  | c :: r, s, t, hb, hs, ht, h => by
    have hc := hb c (List.mem_cons_self ..)
    have hx : ∀ x, x < 4294967296 → it 8 (x ^^^ c.toNat) < 4294967296 := fun x hx => it_lt 8 (xor_lt hx (by omega))
    have e := fold_inj r (fun x hx => hb x (List.mem_cons_of_mem _ hx)) (hx s hs) (hx t ht) h
    have e2 : it 8 (s ^^^ t) = 0 := by
      rw [it_xor] at e ⊢
      rw [it_xor 8 t] at e
      have := congrArg (· ^^^ it 8 c.toNat) e
      simp only [Nat.xor_assoc, Nat.xor_self, Nat.xor_zero] at this
      rw [this, Nat.xor_self]
    exact xor_zero_eq (it_zero_inv 8 (xor_lt hs ht) e2)

/-- Two equal lists of changes differ by a word that goes through the bits. -/
def word : List Nat → Nat
  | [] => 0
  | x :: t => x ^^^ (word t * 256)

theorem word_lt : ∀ (l : List Nat), (∀ x ∈ l, x < 256) → word l < 256 ^ l.length
  | [], _ => by simp [word]
  | x :: t, h => by
    have h1 := word_lt t (fun y hy => h y (List.mem_cons_of_mem _ hy))
    have hx := h x (List.mem_cons_self ..)
    simp only [word, List.length_cons]
    have e : (256 : Nat) ^ (t.length + 1) = 2 ^ (8 * (t.length + 1)) := by rw [Nat.pow_mul]
    rw [e]
    refine Nat.xor_lt_two_pow ?_ ?_
    · exact Nat.lt_of_lt_of_le hx (by rw [← e, Nat.pow_succ]; exact Nat.le_mul_of_pos_left _ (Nat.pow_pos (by decide)))
    · rw [← e, Nat.pow_succ]; exact Nat.mul_lt_mul_of_pos_right h1 (by decide)

theorem sb_double {y : Nat} : sb (y * 2) = y := by
  unfold sb; rw [if_neg (by omega), Nat.xor_zero]; omega
theorem it8_shift (w : Nat) : it 8 (w * 256) = w := by
  have : w * 256 = w * 2 * 2 * 2 * 2 * 2 * 2 * 2 * 2 := by omega
  rw [this]
  simp only [it, sb_double]

theorem it_add : ∀ (n m x : Nat), it (n + m) x = it m (it n x)
  | 0, m, x => by rw [Nat.zero_add]; rfl
  | n + 1, m, x => by rw [show n + 1 + m = (n + m) + 1 by omega]; simp only [it]; exact it_add n m (sb x)

/-- The differences of the states, change for change. -/
def diff (d : Nat) (xs : List Nat) : Nat := xs.foldl (fun d x => it 8 (d ^^^ x)) d
theorem diff_word : ∀ (xs : List Nat) (d : Nat), diff d xs = it (8 * xs.length) (d ^^^ word xs)
  | [], d => by simp [diff, word, it]
  | x :: t, d => by
    have h := diff_word t (it 8 (d ^^^ x))
    have e : diff d (x :: t) = diff (it 8 (d ^^^ x)) t := rfl
    rw [e, h]
    simp only [word, List.length_cons]
    rw [show 8 * (t.length + 1) = 8 + 8 * t.length by omega, it_add, ← Nat.xor_assoc, it_xor 8 (d ^^^ x), it8_shift]

theorem word_zero : ∀ (l : List Nat), (∀ x ∈ l, x < 256) → word l = 0 → ∀ x ∈ l, x = 0
  | [], _, _ => by intro x hx; cases hx
  | y :: t, h, hw => by
    simp only [word] at hw
    have hy := h y (List.mem_cons_self ..)
    have e := xor_zero_eq hw
    have hy0 : y = 0 := by omega
    have ht : word t = 0 := by omega
    intro x hx
    rcases List.mem_cons.1 hx with rfl | hx
    · exact hy0
    · exact word_zero t (fun y hy => h y (List.mem_cons_of_mem _ hy)) ht x hx

theorem diff_ne {xs : List Nat} (hl : xs.length ≤ 4) (hb : ∀ x ∈ xs, x < 256) (hn : ∃ x ∈ xs, x ≠ 0) : diff 0 xs ≠ 0 := by
  intro h
  rw [diff_word, Nat.zero_xor] at h
  have hw : word xs < 4294967296 := Nat.lt_of_lt_of_le (word_lt xs hb) (by
    have := Nat.pow_le_pow_right (show 0 < 256 by decide) hl
    exact Nat.le_trans this (by decide))
  obtain ⟨x, hx, hx0⟩ := hn
  exact hx0 (word_zero xs hb (it_zero_inv _ hw h) x hx)

/-- The bytes xs changed by ys. -/
def turn : List Int → List Nat → List Int
  | c :: t, y :: r => ((c.toNat ^^^ y : Nat) : Int) :: turn t r
  | l, [] => l
  | [], _ => []

theorem fold_turn : ∀ (ys : List Nat) (l : List Int) (s d : Nat), ys.length ≤ l.length → fold (s ^^^ d) (turn l ys) = fold (fold s (l.take ys.length) ^^^ diff d ys) (l.drop ys.length)
  | [], l, s, d, _ => by cases l <;> simp [turn, diff, fold]
  | y :: r, [], _, _, h => by simp at h
  | y :: r, c :: t, s, d, h => by
    have ih := fold_turn r t (it 8 (s ^^^ c.toNat)) (it 8 (d ^^^ y)) (by simpa using h)
    simp only [turn, List.length_cons, List.take_succ_cons, List.drop_succ_cons]
    have e1 : fold (s ^^^ d) (((c.toNat ^^^ y : Nat) : Int) :: turn t r) = fold (it 8 ((s ^^^ d) ^^^ (c.toNat ^^^ y))) (turn t r) := by simp [fold]
    have e2 : it 8 ((s ^^^ d) ^^^ (c.toNat ^^^ y)) = it 8 (s ^^^ c.toNat) ^^^ it 8 (d ^^^ y) := by
      rw [← it_xor]
      congr 1
      rw [Nat.xor_assoc, Nat.xor_assoc, ← Nat.xor_assoc d, Nat.xor_comm d c.toNat, Nat.xor_assoc c.toNat]
    rw [e1, e2, ih]
    rfl

theorem turn_bytes : ∀ (l : List Int) (ys : List Nat), Bytes l → (∀ y ∈ ys, y < 256) → Bytes (turn l ys)
  | [], [], h, _ => h
  | [], _ :: _, _, _ => by simp [turn, Bytes]
  | _ :: _, [], h, _ => h
  | c :: t, y :: r, h, hy => by
    intro x hx
    simp only [turn] at hx
    rcases List.mem_cons.1 hx with rfl | hx
    · have hc := h c (List.mem_cons_self ..)
      have := Nat.xor_lt_two_pow (n := 8) (show c.toNat < 2 ^ 8 by omega) (show y < 2 ^ 8 from hy y (List.mem_cons_self ..))
      omega
    · exact turn_bytes t r (fun x hx => h x (List.mem_cons_of_mem _ hx)) (fun x hx => hy x (List.mem_cons_of_mem _ hx)) x hx

/-- Up to four bytes that are changed behind one another change the sum. -/
theorem sum_turn_ne {a l : List Int} {ys : List Nat} (ha : Bytes a) (hb : Bytes l) (hl : ys.length ≤ 4) (hy : ∀ y ∈ ys, y < 256) (hn : ∃ y ∈ ys, y ≠ 0) (hle : ys.length ≤ l.length) : sum (a ++ l) ≠ sum (a ++ turn l ys) := by
  intro h
  unfold sum at h
  have h1 := congrArg neg h
  rw [neg_neg, neg_neg, fold_append, fold_append] at h1
  have hs := fold_lt a ha (s := 4294967295) (by decide)
  generalize fold 4294967295 a = s at *
  have e := fold_turn ys l s 0 hle
  rw [Nat.xor_zero] at e
  rw [e] at h1
  have e3 : fold s l = fold (fold s (l.take ys.length)) (l.drop ys.length) := by rw [← fold_append, List.take_append_drop]
  rw [e3] at h1
  have h2 := fold_lt (l.take ys.length) (hb.take _) hs
  have hd : diff 0 ys < 4294967296 := by
    rw [diff_word, Nat.zero_xor]
    refine it_lt _ (Nat.lt_of_lt_of_le (word_lt ys hy) ?_)
    exact Nat.le_trans (Nat.pow_le_pow_right (show 0 < 256 by decide) hl) (by decide)
  have h4 := fold_inj _ (fun c hc => hb c (List.mem_of_mem_drop hc)) h2 (xor_lt h2 hd) h1
  have h5 : diff 0 ys = 0 := by
    have := congrArg (fold s (l.take ys.length) ^^^ ·) h4
    simp only [Nat.xor_self, ← Nat.xor_assoc, Nat.zero_xor] at this
    exact this.symm
  exact diff_ne hl hy hn h5
end Go.Proofs.Ythpeieieibbbgaa.QCrc
