/- Numbers in four bytes: what varint's fixed and read come to. -/
import Derived.Test.YtoglanahjlfihaaMBlkx1
import Derived.Test.YtoglanahjlfihaaQBlkBits
namespace Go.Proofs.Ytoglanahjlfihaa.QBlk
open Go.RowKit Go.Proofs.Ytoglanahjlfihaa.MBlk Go.Proofs.Ytoglanahjlfihaa.QBlk Go.Proofs.YtoglanahjlfihaaW.PrintWords Go.Proofs.YtoglanahjlfihaaW.PrintLast Go.Proofs.YtoglanahjlfihaaW.PrintMore
set_option linter.unusedVariables false
set_option linter.unusedSimpArgs false
/-- A number in so many bytes, the lowest first. -/
def fix (n : Nat) : Nat → List Int
  | 0 => []
  | k + 1 => ((n % 256 : Nat) : Int) :: fix (n / 256) k
theorem fix_length : ∀ (k n : Nat), (fix n k).length = k
  | 0, _ => rfl
  | k + 1, n => by simp [fix, fix_length k]
theorem fix_bytes : ∀ (k n : Nat), Bytes (fix n k)
  | 0, _ => by simp [fix, Bytes]
  | k + 1, n => by
    intro c hc
    simp only [fix, List.mem_cons] at hc
    rcases hc with rfl | hc
    · omega
    · exact fix_bytes k _ c hc
theorem fix_getD : ∀ (k n i : Nat), i < k → (fix n k).getD i 0 = ((n / 256 ^ i % 256 : Nat) : Int)
  | 0, _, _, h => by omega
  | k + 1, n, 0, _ => by simp [fix]
  | k + 1, n, i + 1, h => by
    simp only [fix, List.getD_cons_succ]
    rw [fix_getD k (n / 256) i (by omega), Nat.div_div_eq_div_mul, Nat.pow_succ, Nat.mul_comm (256 ^ i)]

theorem pow256 (i : Nat) : (2 : Nat) ^ (8 * i) = 256 ^ i := by rw [Nat.pow_mul]

theorem fixed_l0 (n m : Nat) (hm : m ≤ 8) (d : Nat) : ∀ (i : Nat) (acc : List Int), m - i = d → i ≤ m → acc.length + d < 1000 → Ev (fun k => varint_fixed.l0 k (n : Int) acc (m : Int) (i : Int)) (acc ++ fix (n / 256 ^ i) (m - i)) := by
  induction d with
  | zero =>
    intro i acc hd hi _
    refine Ev.succ ?_
    simp only [varint_fixed.l0]
    refine Ev.ite_neg (by omega) ?_
    rw [show m - i = 0 by omega]
    simp only [fix, List.append_nil]
    exact Ev.now _
  | succ d ih =>
    intro i acc hd hi ha
    refine Ev.succ ?_
    simp only [varint_fixed.l0]
    rw [wrap64_id (n := 8 * (i : Int)) (by omega) (by omega), wrap64_id (n := (i : Int) + 1) (by omega) (by omega)]
    refine Ev.ite_pos (by omega) (Ev.ite_pos (by omega) (Ev.ite_pos (by omega) ?_))
    have e : shr .u64 (n : Int) (8 * (i : Int)) % 256 = ((n / 256 ^ i % 256 : Nat) : Int) := by
      unfold shr
      rw [show min (8 * (i : Int)).toNat IntKind.u64.bits = 8 * i by
        rw [show (8 * (i : Int)).toNat = 8 * i by omega]; exact Nat.min_eq_left (by show 8 * i ≤ 64; omega)]
      have : ((2 : Int) ^ (8 * i)) = ((256 ^ i : Nat) : Int) := by rw [← pow256]; simp
      rw [this]; simp
    rw [e]
    have := ih (i + 1) (acc ++ [((n / 256 ^ i % 256 : Nat) : Int)]) (by omega) (by omega) (by simp; omega)
    rw [List.append_assoc, List.singleton_append] at this
    rw [show m - i = (m - (i + 1)) + 1 by omega]
    simp only [fix]
    rw [Nat.div_div_eq_div_mul, ← Nat.pow_succ]
    exact this

theorem fixed_ev (n m : Nat) (hm : m ≤ 8) : Ev (fun k => varint_fixed.f k (n : Int) (m : Int)) (fix n m) := by
  have := fixed_l0 n m hm m 0 [] rfl (by omega) (by simp; omega)
  simp only [Nat.pow_zero, Nat.div_one, Nat.sub_zero, List.nil_append] at this
  exact this
theorem Put32_ev {n : Nat} (h : n < 4294967296) : Ev (fun k => varint_Put32.f k (n : Int)) (fix n 4) := by
  unfold varint_Put32.f
  rw [u64_id (by omega) (by omega)]
  exact Ev.bind (fixed_ev n 4 (by omega)) (Ev.now _)
/-- The number that bytes make. -/
def val256 : List Int → Nat
  | [] => 0
  | c :: t => c.toNat + 256 * val256 t
theorem val256_lt : ∀ l : List Int, Bytes l → val256 l < 256 ^ l.length
  | [], _ => by simp [val256]
  | c :: t, h => by
    have h1 := val256_lt t (fun x hx => h x (List.mem_cons_of_mem _ hx))
    have hc := h c (List.mem_cons_self ..)
    simp only [val256, List.length_cons, Nat.pow_succ]
    omega
theorem val256_append : ∀ (l m : List Int), val256 (l ++ m) = val256 l + 256 ^ l.length * val256 m
  | [], m => by simp [val256]
  | c :: t, m => by
    simp only [val256, List.cons_append, List.length_cons, Nat.pow_succ, val256_append t m]
    rw [Nat.mul_add, ← Nat.mul_assoc, Nat.mul_comm 256 (256 ^ t.length)]
    omega
theorem val256_take_succ (l : List Int) (i : Nat) (h : i < l.length) : val256 (l.take (i + 1)) = val256 (l.take i) + 256 ^ i * (l.getD i 0).toNat := by
  rw [take_succ_getD l i h, val256_append, List.length_take, Nat.min_eq_left (by omega)]; simp [val256]
theorem val256_fix : ∀ (k n : Nat), val256 (fix n k) = n % 256 ^ k
  | 0, n => by simp [fix, val256, Nat.mod_one]
  | k + 1, n => by
    simp only [fix, val256]
    rw [val256_fix k, Nat.pow_succ, Nat.mul_comm (256 ^ k), Nat.mod_mul]
    omega

theorem or_step8 (l : List Int) (i : Nat) (hi : i < l.length) (hl : l.length ≤ 8) (hb : Bytes l) :
    Go.bits .or .u64 (val256 (l.take i) : Int) (shl .u64 (IntKind.u64.wrap (l.getD i 0)) (wrap64 (8 * (i : Int)))) = (val256 (l.take (i + 1)) : Int) := by
  have hg := hb.getD i
  have hc' : l.getD i 0 = ((l.getD i 0).toNat : Int) := by omega
  rw [wrap64_id (by omega) (by omega), u64_id (by omega) (by omega)]
  unfold shl
  have e7 : min (8 * (i : Int)).toNat IntKind.u64.bits = 8 * i := by
    rw [show (8 * (i : Int)).toNat = 8 * i by omega]
    exact Nat.min_eq_left (by show 8 * i ≤ 64; omega)
  generalize hm : (l.getD i 0).toNat = m at *
  have hlt : m * 256 ^ i < 2 ^ 64 := by
    have hp : 256 ^ i ≤ 256 ^ 7 := Nat.pow_le_pow_right (by decide) (by omega)
    have hm' : m ≤ 255 := by omega
    exact Nat.lt_of_le_of_lt (Nat.mul_le_mul hm' hp) (by decide)
  have e2 : (m : Int) * 2 ^ (8 * i) = ((m * 256 ^ i : Nat) : Int) := by
    rw [← pow256]; simp
  have hv := val256_lt (l.take i) (hb.take i)
  rw [List.length_take, Nat.min_eq_left (by omega)] at hv
  have hv64 : val256 (l.take i) < 2 ^ 64 := Nat.lt_of_lt_of_le hv (Nat.le_trans (Nat.pow_le_pow_right (by decide) (show i ≤ 7 by omega)) (by decide))
  have hw : IntKind.u64.wrap ((m * 256 ^ i : Nat) : Int) = ((m * 256 ^ i : Nat) : Int) := u64wraps _ (by omega) (by exact_mod_cast hlt)
  rw [e7, hc', e2, hw, or_low (i := 8 * i) (by rw [pow256]; exact hv) (by rw [pow256]; exact Nat.mul_mod_left _ _) hv64 hlt, val256_take_succ l i hi, hm]
  simp [Nat.mul_comm]

theorem read_l0 (l : List Int) (hl : l.length ≤ 8) (hb : Bytes l) (d : Nat) : ∀ (i : Nat), l.length - i = d → i ≤ l.length → Ev (fun k => varint_read.l0 k (val256 (l.take i) : Int) l (l.length : Int) (i : Int)) (val256 l : Int) := by
  induction d with
  | zero =>
    intro i hd hi
    refine Ev.succ ?_
    simp only [varint_read.l0]
    rw [List.take_of_length_le (by omega)]
    exact Ev.ite_neg (by omega) (Ev.now _)
  | succ d ih =>
    intro i hd hi
    refine Ev.succ ?_
    simp only [varint_read.l0]
    refine Ev.ite_pos (by omega) (Ev.ite_pos (by omega) (Ev.ite_pos (by omega) (Ev.ite_pos (by rw [wrap64_id (by omega) (by omega)]; omega) ?_)))
    rw [rd_nat, wrap64_id (n := (i : Int) + 1) (by omega) (by omega), or_step8 l i (by omega) hl hb]
    exact ih (i + 1) (by omega) (by omega)

theorem read_ev {l : List Int} {m : Nat} (hm : m ≤ 8) (hb : Bytes l) (hl : m ≤ l.length) : Ev (fun k => varint_read.f k l (m : Int)) (val256 (l.take m) : Int) := by
  have hlen : (l.take m).length = m := by rw [List.length_take]; omega
  have h := read_l0 (l.take m) (by omega) (hb.take m) _ 0 rfl (by omega)
  unfold varint_read.f
  refine Ev.ite_neg (by omega) (Ev.ite_pos (by omega) (Ev.ite_pos (by omega) ?_))
  (try simp only [Option.bind_some])
  rw [Int.toNat_natCast]
  exact h
theorem Get32_ev {l : List Int} (hb : Bytes l) (hl : 4 ≤ l.length) : Ev (fun k => varint_Get32.f k l) (val256 (l.take 4) : Int) := by
  unfold varint_Get32.f
  refine Ev.bind (read_ev (m := 4) (by omega) hb hl) (Ev.same ?_)
  have h := val256_lt (l.take 4) (hb.take 4)
  rw [List.length_take, Nat.min_eq_left hl] at h
  have e : (256 : Nat) ^ 4 = 4294967296 := by decide
  rw [show ((val256 (l.take 4) : Int)) % 4294967296 = (val256 (l.take 4) : Int) by omega]
end Go.Proofs.Ytoglanahjlfihaa.QBlk
