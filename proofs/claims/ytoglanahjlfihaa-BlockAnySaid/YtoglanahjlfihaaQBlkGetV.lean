/- Numbers as bytes: what varint's Get comes to. -/
import Derived.Test.YtoglanahjlfihaaMBlkx2
import Derived.Test.YtoglanahjlfihaaQBlkBytes
import Derived.Test.YtoglanahjlfihaaQBlkPutV
namespace Go.Proofs.Ytoglanahjlfihaa.QBlk
open Go.RowKit Go.Proofs.Ytoglanahjlfihaa.MBlk Go.Proofs.Ytoglanahjlfihaa.QBlk Go.Proofs.YtoglanahjlfihaaW.PrintWords Go.Proofs.YtoglanahjlfihaaW.PrintLast Go.Proofs.YtoglanahjlfihaaW.PrintMore
set_option linter.unusedVariables false
set_option linter.unusedSimpArgs false
/-- The number that bytes' lower seven bits make. -/
def val : List Int → Nat
  | [] => 0
  | c :: t => (c % 128).toNat + 128 * val t

theorem val_lt : ∀ l : List Int, val l < 128 ^ l.length
  | [] => by simp [val]
  | c :: t => by
    have := val_lt t
    simp only [val, List.length_cons, Nat.pow_succ]
    omega

theorem val_append : ∀ (l m : List Int), val (l ++ m) = val l + 128 ^ l.length * val m
  | [], m => by simp [val]
  | c :: t, m => by
    simp only [val, List.cons_append, List.length_cons, Nat.pow_succ, val_append t m]
    rw [Nat.mul_add, ← Nat.mul_assoc, Nat.mul_comm 128 (128 ^ t.length)]
    omega

theorem take_succ_getD (l : List Int) (i : Nat) (h : i < l.length) : l.take (i + 1) = l.take i ++ [l.getD i 0] := by
  rw [List.take_succ_eq_append_getElem h, List.getD_eq_getElem?_getD, List.getElem?_eq_getElem h]; rfl

theorem val_take_succ (l : List Int) (i : Nat) (h : i < l.length) : val (l.take (i + 1)) = val (l.take i) + 128 ^ i * (l.getD i 0 % 128).toNat := by
  rw [take_succ_getD l i h, val_append, List.length_take, Nat.min_eq_left (by omega)]; simp [val]

/-- What is read from place i on. -/
def getG (l : List Int) (i : Nat) : Int × Int :=
  if i < l.length then (if l.getD i 0 > 127 then getG l (i + 1) else if (i > 0 ∧ l.getD i 0 = 0) ∨ (i = 9 ∧ l.getD i 0 > 1) then (0, 0) else ((val (l.take (i + 1)) : Int), (i : Int) + 1)) else (0, 0)
termination_by l.length - i

theorem u64wraps (n : Int) (h0 : 0 ≤ n) (h1 : n < 2 ^ 64) : IntKind.u64.wrap n = n := u64_id h0 (by simpa using h1)

theorem or_low {a b i : Nat} (ha : a < 2 ^ i) (hb : b % 2 ^ i = 0) (ha64 : a < 2 ^ 64) (hb64 : b < 2 ^ 64) : Go.bits .or .u64 (a : Int) (b : Int) = ((a + b : Nat) : Int) := by
  have h := (bits_nat .u64 64 (by decide) u64wraps a b ha64 hb64).2
  rw [h]
  have hq : b = 2 ^ i * (b / 2 ^ i) := by
    have := Nat.div_add_mod b (2 ^ i)
    omega
  rw [Nat.or_comm, hq, ← Nat.two_pow_add_eq_or_of_lt ha (b / 2 ^ i), Nat.add_comm]

theorem and127 : ∀ x : Fin 256, Go.bits .and .u8 (x.val : Int) 127 = ((x.val % 128 : Nat) : Int) := by decide +kernel
theorem and127' {x : Int} (h0 : 0 ≤ x) (h1 : x < 256) : Go.bits .and .u8 x 127 = x % 128 := by
  obtain ⟨n, rfl⟩ := Int.eq_ofNat_of_zero_le h0
  have := and127 ⟨n, by omega⟩
  simp only at this
  rw [this]; omega

theorem pow128 (i : Nat) : (2 : Nat) ^ (7 * i) = 128 ^ i := by rw [Nat.pow_mul]

/-- One byte more. -/
theorem or_step (l : List Int) (i : Nat) (hi : i < l.length) (hl : l.length ≤ 10) (hb : Bytes l) (hc : i < 9 ∨ l.getD i 0 ≤ 1) :
    Go.bits .or .u64 (val (l.take i) : Int) (shl .u64 (IntKind.u64.wrap (Go.bits .and .u8 (l.getD i 0) 127)) (wrap64 (7 * (i : Int)))) = (val (l.take (i + 1)) : Int) := by
  have hg := hb.getD i
  generalize hc' : l.getD i 0 = c at *
  rw [and127' hg.1 hg.2, wrap64_id (by omega) (by omega), u64_id (by omega) (by omega)]
  unfold shl
  obtain ⟨m, hm⟩ : ∃ m : Nat, c % 128 = (m : Int) := ⟨(c % 128).toNat, by omega⟩
  have e7 : min (7 * (i : Int)).toNat IntKind.u64.bits = 7 * i := by
    rw [show (7 * (i : Int)).toNat = 7 * i by omega]
    exact Nat.min_eq_left (by show 7 * i ≤ 64; omega)
  have hlt : m * 128 ^ i < 2 ^ 64 := by
    have hp : 128 ^ i ≤ 128 ^ 9 := Nat.pow_le_pow_right (by decide) (by omega)
    rcases Nat.lt_or_ge i 9 with h | h
    · have hp : 128 ^ i ≤ 128 ^ 8 := Nat.pow_le_pow_right (by decide) (by omega)
      have hm' : m ≤ 127 := by omega
      calc m * 128 ^ i ≤ 127 * 128 ^ 8 := Nat.mul_le_mul hm' hp
        _ < 2 ^ 64 := by decide
    · have hm' : m ≤ 1 := by omega
      calc m * 128 ^ i ≤ 1 * 128 ^ 9 := Nat.mul_le_mul hm' hp
        _ < 2 ^ 64 := by decide
  have e2 : (m : Int) * 2 ^ (7 * i) = ((m * 128 ^ i : Nat) : Int) := by
    rw [← pow128]; simp
  have hv := val_lt (l.take i)
  rw [List.length_take, Nat.min_eq_left (by omega)] at hv
  have hv64 : val (l.take i) < 2 ^ 64 := Nat.lt_of_lt_of_le hv (Nat.le_trans (Nat.pow_le_pow_right (by decide) (show i ≤ 9 by omega)) (by decide))
  have hw : IntKind.u64.wrap ((m * 128 ^ i : Nat) : Int) = ((m * 128 ^ i : Nat) : Int) := u64wraps _ (by omega) (by exact_mod_cast hlt)
  rw [e7, hm, e2, hw, or_low (i := 7 * i) (by rw [pow128]; exact hv) (by rw [pow128]; exact Nat.mul_mod_left _ _) hv64 hlt, val_take_succ l i hi, hc', hm]
  simp [Nat.mul_comm]

theorem getG_step {l : List Int} {i : Nat} (hi : i < l.length) (hc : l.getD i 0 > 127) : getG l i = getG l (i + 1) := by
  rw [getG, if_pos hi, if_pos hc]
theorem getG_none {l : List Int} {i : Nat} (hi : l.length ≤ i) : getG l i = (0, 0) := by
  rw [getG, if_neg (by omega)]

/-- More than nine such bytes: none. -/
theorem getG_late (l : List Int) (hl : l.length ≤ 10) (i : Nat) (hi : 10 ≤ i) : getG l i = (0, 0) := getG_none (by omega)

theorem Get_l0 (l : List Int) (hl : l.length ≤ 10) (hb : Bytes l) (d : Nat) : ∀ (i : Nat) (x : Int), l.length - i = d → i ≤ l.length → (i < 10 → x = (val (l.take i) : Int)) → Ev (fun k => varint_Get.l0 k x l (l.length : Int) (i : Int)) (getG l i) := by
  induction d with
  | zero =>
    intro i x hd hi hx
    refine Ev.succ ?_
    simp only [varint_Get.l0]
    refine Ev.ite_neg (by omega) ?_
    rw [getG_none (by omega)]
    exact Ev.now _
  | succ d ih =>
    intro i x hd hi hx
    have hlt : i < l.length := by omega
    refine Ev.succ ?_
    simp only [varint_Get.l0]
    refine Ev.ite_pos (by omega) (Ev.ite_pos (by omega) (Ev.ite_pos (by omega) (Ev.ite_pos (by rw [wrap64_id (by omega) (by omega)]; omega) ?_)))
    rw [rd_nat, wrap64_id (n := (i : Int) + 1) (by omega) (by omega)]
    by_cases hc : l.getD i 0 > 127
    · refine Ev.ite_pos hc ?_
      rw [getG_step hlt hc]
      refine ih (i + 1) _ (by omega) (by omega) (fun h10 => ?_)
      rw [hx (by omega)]
      exact or_step l i hlt hl hb (.inl (by omega))
    · refine Ev.ite_neg hc ?_
      have hor : (i = 9 → l.getD i 0 ≤ 1) → Go.bits .or .u64 x (shl .u64 (IntKind.u64.wrap (Go.bits .and .u8 (l.getD i 0) 127)) (wrap64 (7 * (i : Int)))) = (val (l.take (i + 1)) : Int) := by
        intro h9
        rw [hx (by omega)]
        exact or_step l i hlt hl hb (by omega)
      have eg : getG l i = if (i > 0 ∧ l.getD i 0 = 0) ∨ (i = 9 ∧ l.getD i 0 > 1) then (0, 0) else ((val (l.take (i + 1)) : Int), (i : Int) + 1) := by
        rw [getG, if_pos hlt, if_neg hc]
      by_cases h0 : i > 0 ∧ l.getD i 0 = 0
      · replace eg := eg.trans (if_pos (Or.inl h0))
        rw [eg]
        exact Ev.ite_pos (by omega) (Ev.ite_pos h0.2 (Ev.now _))
      · by_cases h9 : i = 9 ∧ l.getD i 0 > 1
        · replace eg := eg.trans (if_pos (Or.inr h9))
          rw [eg]
          exact Ev.ite_pos (by omega) (Ev.ite_neg (by omega) (Ev.ite_pos (by omega) (Ev.ite_pos h9.2 (Ev.now _))))
        · replace eg := eg.trans (if_neg (by omega))
          rw [eg, ← hor (by omega)]
          by_cases hi0 : (i : Int) > 0
          · refine Ev.ite_pos hi0 (Ev.ite_neg (by omega) ?_)
            by_cases hi9 : (i : Int) = 9
            · exact Ev.ite_pos hi9 (Ev.ite_neg (by omega) (Ev.now _))
            · exact Ev.ite_neg hi9 (Ev.now _)
          · refine Ev.ite_neg hi0 ?_
            exact Ev.ite_neg (by omega) (Ev.now _)

def get (l : List Int) : Int × Int := getG (l.take 10) 0

theorem mn10 (n : Nat) : mn (n : Int) 10 = ((min n 10 : Nat) : Int) := by unfold mn; split <;> omega

theorem Get_ev {l : List Int} (hb : Bytes l) : Ev (fun k => varint_Get.f k l) (get l) := by
  have h := Get_l0 (l.take 10) (by simp; omega) (hb.take 10) _ 0 0 rfl (by omega) (fun _ => by simp [val])
  unfold varint_Get.f get
  rw [mn10]
  refine Ev.ite_pos (by omega) (Ev.ite_pos (by omega) ?_)
  simp only [Option.bind_some]
  rw [show (((min l.length 10 : Nat) : Int)).toNat = min l.length 10 by omega]
  rw [show l.take (min l.length 10) = l.take 10 by rw [List.take_eq_take_min (i := 10), Nat.min_comm]]
  exact h
end Go.Proofs.Ytoglanahjlfihaa.QBlk
