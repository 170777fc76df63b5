/- It is proved that the law NumbersMany of package incipitlaw8 returns true at every input: numbers and texts one behind the other are read one behind the other. No conditions. -/
import Derived.Test.YthpeieieibbbgaaMNumx2
import Derived.Test.YthpeieieibbbgaaMNumx5
import Derived.Test.YthpeieieibbbgaaQNumFixRef
import Derived.Test.YthpeieieibbbgaaQNumGetPut
import Derived.Test.YthpeieieibbbgaaQNumGetText
import Derived.Test.YthpeieieibbbgaaQNumNumBegun
namespace Go.Proofs.Ythpeieieibbbgaa.Pure
open Go.RowKit Go.Proofs.Ythpeieieibbbgaa.MNum Go.Proofs.Ythpeieieibbbgaa.QNum Go.Proofs.YthpeieieibbbgaaW.PrintWords Go.Proofs.YthpeieieibbbgaaW.PrintLast Go.Proofs.YthpeieieibbbgaaW.PrintMore
set_option linter.unusedVariables false
set_option linter.unusedSimpArgs false
/-- A text's front. -/
def front (s : ByteArray) : ByteArray := (incipitlaw1_Cut.f s 30).getD ByteArray.empty
theorem front_eq (s : ByteArray) : incipitlaw1_Cut.f s 30 = some (front s) ∧ (front s).size ≤ 30 := by
  obtain ⟨t, ht, _, h2⟩ := Cut_some s 30
  have e : ((30 : Nat) : Int) = 30 := rfl
  rw [e] at ht
  have : front s = t := by unfold front; rw [ht]; rfl
  rw [this]; exact ⟨ht, h2⟩
def num (x : Int) : Nat := (IntKind.u64.wrap x).toNat
theorem num_eq (x : Int) : IntKind.u64.wrap x = (num x : Int) ∧ num x < 18446744073709551616 := by
  have h : IntKind.u64.wrap x = x % 18446744073709551616 := by
    simp only [IntKind.wrap, IntKind.signed, IntKind.bits, Bool.false_and, Bool.false_eq_true, if_false]
    rfl
  unfold num; rw [h]; omega
theorem bytesOf_bytes (s : ByteArray) : Bytes (bytesOf s) := by
  intro c hc
  simp only [bytesOf, List.mem_map] at hc
  obtain ⟨b, _, rfl⟩ := hc
  have := UInt8.toNat_lt b
  omega
/-- What a number and its text are written as. -/
def item (l : List Int) (s : List ByteArray) (i : Nat) : List Int := put (num (l.getD i 0)) ++ (if i < s.length then put (front (s.getD i ByteArray.empty)).size ++ bytesOf (front (s.getD i ByteArray.empty)) else [])
def code (l : List Int) (s : List ByteArray) : Nat → Nat → List Int
  | 0, _ => []
  | d + 1, i => item l s i ++ code l s d (i + 1)
theorem item_ok (l : List Int) (s : List ByteArray) (i : Nat) : Bytes (item l s i) ∧ (item l s i).length ≤ 50 := by
  unfold item
  have h1 := (num_eq (l.getD i 0)).2
  have h2 := put_length10 h1
  have h3 := (front_eq (s.getD i ByteArray.empty)).2
  have h4 := put_length10 (n := (front (s.getD i ByteArray.empty)).size) (by omega)
  refine ⟨Bytes.append (put_bytes h1) ?_, ?_⟩
  · split
    · exact Bytes.append (put_bytes (by omega)) (bytesOf_bytes _)
    · intro c hc; cases hc
  · rw [List.length_append]
    split
    · rw [List.length_append, bytesOf_length]; omega
    · rw [List.length_nil]; omega
theorem code_ok (l : List Int) (s : List ByteArray) : ∀ d i, Bytes (code l s d i) ∧ (code l s d i).length ≤ 50 * d
  | 0, _ => ⟨(by intro c hc; cases hc), (by simp [code])⟩
  | d + 1, i => by
    have h1 := item_ok l s i
    have h2 := code_ok l s d (i + 1)
    simp only [code, List.length_append]
    exact ⟨h1.1.append h2.1, by omega⟩
theorem strOf_bytesOf (t : ByteArray) : strOfNums (bytesOf t) = t := by
  obtain ⟨a⟩ := t
  unfold strOfNums bytesOf
  congr 1
  rw [List.map_map]
  have : ((fun n : Int => UInt8.ofNat n.toNat) ∘ fun b : UInt8 => (b.toNat : Int)) = id := by
    funext b; simp
  rw [this, List.map_id]
theorem getText_put {t : ByteArray} (h : t.size ≤ 30) (rest : List Int) : getText (put t.size ++ bytesOf t ++ rest) = (t, ((put t.size ++ bytesOf t).length : Int)) := by
  have hp := put_pos (n := t.size) (by omega)
  have hg := get_put (n := t.size) (by omega) (bytesOf t ++ rest)
  rw [← List.append_assoc] at hg
  have hl := bytesOf_length t
  unfold getText
  rw [hg]
  simp only
  rw [if_neg (by omega), if_neg (by simp only [List.length_append]; omega)]
  have e1 : (((put t.size).length : Int) + (t.size : Int)).toNat = (put t.size ++ bytesOf t).length := by rw [List.length_append, hl]; omega
  rw [e1, List.take_left, Int.toNat_natCast, List.drop_left, strOf_bytesOf]
  congr 1
  rw [List.length_append, hl]; omega

theorem back_l1 (l : List Int) (s : List ByteArray) (m : Nat) (hm : m = min l.length 20) (d : Nat) : ∀ i, m - i = d → i ≤ m → Ev (fun k => incipitlaw8_NumbersMany.l1 k l s (code l s d i) (i : Int)) true := by
  induction d with
  | zero =>
    intro i hd hi
    have hj : Ev (fun k => incipitlaw8_NumbersMany.j3 k l s (code l s 0 i) (i : Int) false) true := by
      refine Ev.succ ?_
      simp only [incipitlaw8_NumbersMany.j3]
      exact Ev.ite_neg (by simp) (Ev.now _)
    refine Ev.succ ?_
    simp only [incipitlaw8_NumbersMany.l1]
    by_cases c : (i : Int) < (l.length : Int)
    · refine Ev.ite_pos c ?_
      rw [decide_eq_false (by omega)]; exact hj
    · exact Ev.ite_neg c hj
  | succ d ih =>
    intro i hd hi
    have hnum := num_eq (l.getD i 0)
    have hfr := front_eq (s.getD i ByteArray.empty)
    have hcode := code_ok l s d (i + 1)
    have hn := ih (i + 1) (by omega) (by omega)
    refine Ev.succ ?_
    simp only [incipitlaw8_NumbersMany.l1]
    refine Ev.ite_pos (by omega) ?_
    rw [decide_eq_true (by omega)]
    refine Ev.succ ?_
    simp only [incipitlaw8_NumbersMany.j3]
    refine Ev.ite_pos trivial ?_
    have hB := (code_ok l s (d + 1) i).1
    refine Ev.bind (Get_ev hB) ?_
    have hget : get (code l s (d + 1) i) = ((num (l.getD i 0) : Int), ((put (num (l.getD i 0))).length : Int)) := by
      simp only [code, item, List.append_assoc]
      exact get_put hnum.2 _
    rw [hget]
    have hpos := put_pos hnum.2
    refine Ev.ite_neg (by simp only; omega) (Ev.ite_pos (by omega) (Ev.ite_pos (by omega) ?_))
    simp only [rd_nat, hnum.1, bne_self_eq_false]
    refine Ev.succ ?_
    simp only [incipitlaw8_NumbersMany.j4, Option.bind_some, Int.toNat_natCast]
    have hlen := put_length10 hnum.2
    refine Ev.ite_neg (by simp) (Ev.ite_pos (by omega) (Ev.ite_pos (by simp only [code, item, List.length_append]; omega) ?_))
    by_cases c : i < s.length
    · have e1 : (code l s (d + 1) i).drop (put (num (l.getD i 0))).length = put (front (s.getD i ByteArray.empty)).size ++ bytesOf (front (s.getD i ByteArray.empty)) ++ code l s d (i + 1) := by
        simp only [code, item, if_pos c, List.append_assoc, List.drop_left]
      rw [e1]
      have hgt := getText_put hfr.2 (code l s d (i + 1))
      have hl10 := put_length10 (n := (front (s.getD i ByteArray.empty)).size) (by omega)
      have hpp := put_pos (n := (front (s.getD i ByteArray.empty)).size) (by omega)
      have hBt : Bytes (put (front (s.getD i ByteArray.empty)).size ++ bytesOf (front (s.getD i ByteArray.empty)) ++ code l s d (i + 1)) := by rw [← e1]; exact hB.drop _
      refine Ev.ite_pos (by omega) (Ev.bind (GetText_ev hBt (by simp only [List.length_append, bytesOf_length]; omega)) ?_)
      rw [hgt]
      have er : rdOf ByteArray.empty s (i : Int) = s.getD i ByteArray.empty := by unfold rdOf; rw [Int.toNat_natCast]
      simp only [er, hfr.1, Option.bind_some, Int.toNat_natCast]
      refine Ev.ite_neg (by simp only [List.length_append]; omega) (Ev.ite_pos (by omega) (Ev.ite_pos trivial (Ev.ite_pos (by omega) (Ev.ite_pos (by simp only [List.length_append]; omega) ?_))))
      rw [List.drop_left, wrap64_id (by omega) (by omega)]
      exact hn
    · refine Ev.ite_neg (by omega) ?_
      have e1 : (code l s (d + 1) i).drop (put (num (l.getD i 0))).length = code l s d (i + 1) := by
        simp only [code, item, if_neg c, List.append_nil, List.drop_left]
      rw [e1, wrap64_id (by omega) (by omega)]
      exact hn

theorem fore_l0 (l : List Int) (s : List ByteArray) (m : Nat) (hm : m = min l.length 20) (d : Nat) : ∀ i (acc : List Int), m - i = d → i ≤ m → acc ++ code l s d i = code l s m 0 → acc.length ≤ 50 * i → Ev (fun k => incipitlaw8_NumbersMany.l0 k l s acc (i : Int)) true := by
  induction d with
  | zero =>
    intro i acc hd hi ha _
    have hb := back_l1 l s m hm m 0 rfl (by omega)
    simp only [code, List.append_nil] at ha
    have hj : Ev (fun k => incipitlaw8_NumbersMany.j1 k l s acc (i : Int) false) true := by
      refine Ev.succ ?_
      simp only [incipitlaw8_NumbersMany.j1]
      refine Ev.ite_neg (by simp) ?_
      rw [ha]; exact hb
    refine Ev.succ ?_
    simp only [incipitlaw8_NumbersMany.l0]
    by_cases c : (i : Int) < (l.length : Int)
    · refine Ev.ite_pos c ?_
      rw [decide_eq_false (by omega)]; exact hj
    · exact Ev.ite_neg c hj
  | succ d ih =>
    intro i acc hd hi ha hal
    have hnum := num_eq (l.getD i 0)
    have hfr := front_eq (s.getD i ByteArray.empty)
    have hlen := put_length10 hnum.2
    have hl10 := put_length10 (n := (front (s.getD i ByteArray.empty)).size) (by omega)
    have hit := (item_ok l s i).2
    have hn := ih (i + 1) (acc ++ item l s i) (by omega) (by omega) (by rw [List.append_assoc]; exact ha) (by rw [List.length_append]; omega)
    refine Ev.succ ?_
    simp only [incipitlaw8_NumbersMany.l0]
    refine Ev.ite_pos (by omega) ?_
    rw [decide_eq_true (by omega)]
    refine Ev.succ ?_
    simp only [incipitlaw8_NumbersMany.j1, rd_nat, hnum.1, Option.bind_some]
    refine Ev.ite_pos trivial (Ev.ite_pos (by omega) (Ev.ite_pos (by omega) ?_))
    refine Ev.bind (Put_ev hnum.2) (Ev.ite_pos (by omega) ?_)
    have er : rdOf ByteArray.empty s (i : Int) = s.getD i ByteArray.empty := by unfold rdOf; rw [Int.toNat_natCast]
    simp only [er, hfr.1, Option.bind_some]
    rw [wrap64_id (n := (i : Int) + 1) (by omega) (by omega)]
    by_cases c : i < s.length
    · refine Ev.ite_pos (by omega) (Ev.bind (Text_ev (by omega)) (Ev.ite_pos (by simp only [List.length_append, bytesOf_length]; omega) ?_))
      have e : acc ++ put (num (l.getD i 0)) ++ (put (front (s.getD i ByteArray.empty)).size ++ bytesOf (front (s.getD i ByteArray.empty))) = acc ++ item l s i := by
        simp only [item, if_pos c, List.append_assoc]
      rw [e]; exact hn
    · refine Ev.ite_neg (by omega) ?_
      have e : acc ++ put (num (l.getD i 0)) = acc ++ item l s i := by simp only [item, if_neg c, List.append_nil]
      rw [e]; exact hn

theorem NumbersMany : ∀ (l0 : List Int) (l1 : List ByteArray), (l0.length ≤ maxLen ∧ ∀ x ∈ l0, (Lit.int .i64 x).wf = true) → (l1.length ≤ maxLen ∧ ∀ x ∈ l1, x.size ≤ maxLen) → ∃ k, incipitlaw8_NumbersMany.f k l0 l1 = some true := by
  intro l s hl hs
  refine Ev.rounds (g := fun k => incipitlaw8_NumbersMany.f k l s) ?_
  unfold incipitlaw8_NumbersMany.f
  refine Ev.bind begun_ev (Ev.ite_pos rfl ?_)
  exact fore_l0 l s (min l.length 20) rfl _ 0 [] rfl (by omega) (by simp) (by simp)
end Go.Proofs.Ythpeieieibbbgaa.Pure
