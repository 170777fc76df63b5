-- Written by a program of this session for this claim (out of the translation's print); Lean checks it.
import Derived.Test.YtoglanahjlfihaaMEdtx0
namespace Go.Proofs.Ytoglanahjlfihaa.MEdt
open Go.RowKit Go.Proofs.YtoglanahjlfihaaW.PrintWords Go.Proofs.YtoglanahjlfihaaW.PrintLast Go.Proofs.YtoglanahjlfihaaW.PrintMore
attribute [local go_sem] max2_int min2_int max_two min_two max_three min_three max_four min_four   -- for this text's walks alone
set_option linter.unusedVariables false
set_option linter.unusedSimpArgs false

/-! ### this session's words -/
/-- A constant's bytes: the row that was laid, and its mark. -/
theorem lit_bytes {P : Program} {ops : Array Oper} {rest : List Oper} {o : Oper} {a : Act} {Q : Exit → Act → World → Prop} {W : World} (T e _base : Nat) (hgd : o.guard = none) {N : Tmp} (_hd : o.dst = some N) {x : Operand}
  (ho : o.op = .convert T T x) (ht : P.underlying T = some (.slice e)) (he : P.underlying e = some (.int .u8)) (xs : List Int) {C : Array Value} (hC : C = (nums .u8 xs).toArray) (hx : a.eval x = .slice (some ⟨W.heap.size,0,none⟩) xs.length xs.length) (hm : xs.length ≤ 9223372036854775807)
  (h : ∀ v1 w1,Kd.V (Kd.int .u8) e w1 W.heap.size (fun k_ => W.heap.size ≤ k_) v1 xs → Below W.heap.size W w1 → wpList P ops Q rest (a.put o.dst v1) w1) : wpList P ops Q (o :: rest) a (W.alloc (.cells C e)) := by
 have hrun : (execOp a.eval o).run P (W.alloc (.cells C e)) = .ok (.value (.slice (some ⟨W.heap.size, 0, none⟩) xs.length xs.length)) (W.alloc (.cells C e (C.size, C.size + 1))) := by
  have := Lib.run_convert_bytes_const (P := P) W T e C xs.length xs.length ht he
  unfold execOp
  simp [ho, hx, this]
 refine Kd.event_run hgd hrun (h _ _ (Kd.V_mk (Nat.le_refl _) ?_) (below_alloc (Below.refl _ _) _))
 intro W' hW
 have hb := hW W.heap.size (Nat.le_refl _) (by show W.heap.size < (W.heap.push _).size; simp)
 have hb2 : W'.heap[W.heap.size]? = some (.cells C e (C.size, C.size + 1)) := by
  rw [hb]; show (W.heap.push _)[W.heap.size]? = _; simp
 refine Kd.C_of_reads (enc := Value.int .u8) (d := (0 : Int)) (h1 := fun _ => rfl) ⟨rfl, hm, fun _ => ⟨_, rfl, fun j hj => ?_⟩⟩
 rw [add_plain, World.cell?, hb2]
 simp [hC, nums, List.getElem?_eq_getElem hj, List.getD_eq_getElem?_getD]

/-! ### words: comparisons of texts, as the print spells them -/
theorem bl_irrefl_ : ∀ l : List UInt8, Op.bytesLess l l = false
 | [] => rfl
 | x :: t => by simp [Op.bytesLess, bl_irrefl_ t, UInt8.lt_irrefl]
theorem bl_total_ : ∀ a b : List UInt8, a ≠ b → (Op.bytesLess b a = !(Op.bytesLess a b))
 | [], [], h => absurd rfl h
 | [], _ :: _, _ => by simp [Op.bytesLess]
 | _ :: _, [], _ => by simp [Op.bytesLess]
 | x :: a, y :: b, h => by
  unfold Op.bytesLess
  by_cases e : x = y
  ·subst e
   have := bl_total_ a b (fun z => h (by rw [z]))
   simp [UInt8.lt_irrefl, this]
  ·by_cases l : x < y
   ·have : ¬ y < x := fun z => UInt8.lt_asymm l z
    simp [l, this, e, Ne.symm e]
   ·have l2 : y < x := UInt8.lt_of_le_of_ne (UInt8.not_lt.1 l) (Ne.symm e)
    simp [l, l2, e, Ne.symm e]
theorem bl_le_ (a b : List UInt8) : (Op.bytesLess a b || a == b) = !(Op.bytesLess b a) := by
 by_cases e : a = b
 ·subst e; simp [bl_irrefl_]
 ·rw [bl_total_ a b e]; simp [e]
theorem binOp_string_leq_ (t : TypeId) (a b : ByteArray) : binOp .leq t (.string a) (.string b) = pure (.bool !(Op.bytesLess b.toList a.toList)) := by
 rw [← bl_le_]; simp [binOp, Op.stringOp]
theorem binOp_string_gtr_ (t : TypeId) (a b : ByteArray) : binOp .gtr t (.string a) (.string b) = pure (.bool (Op.bytesLess b.toList a.toList)) := by
 have h := bl_le_ a.toList b.toList
 have h2 : Op.bytesLess b.toList a.toList = !(Op.bytesLess a.toList b.toList || a.toList == b.toList) := by rw [h]; simp
 rw [h2]; simp [binOp, Op.stringOp]
theorem binOp_string_geq_ (t : TypeId) (a b : ByteArray) : binOp .geq t (.string a) (.string b) = pure (.bool !(Op.bytesLess a.toList b.toList)) := by
 simp [binOp, Op.stringOp]

/-! ### edit_in: function 58 -/
def edit_in.l0 : Nat → Int → Int → List Int → Int → Int → Option (Bool)
 | 0, _, _, _, _, _ => none
 | k + 1,x0,x1,x9,x10,x11 => if x11 < x10 then (if 0 ≤ x11 then (if x11 < (x9.length : Int) then (if (rd x9 x11) < x0 then (some false) else (if (rd x9 x11) > x1 then (some false) else (edit_in.l0 k x0 x1 x9 x10 (wrap64 (x11 + 1))))) else (none)) else (none)) else (some true)
def edit_in.f (k : Nat) (a0 : Int) (a1 : Int) (l2 : List Int) : Option (Bool) := edit_in.l0 k a0 a1 l2 (l2.length : Int) 0
theorem edit_in.mono_l : ∀ k, (∀ y0 y1 y2 y3 y4, LeO (edit_in.l0 k y0 y1 y2 y3 y4) (edit_in.l0 (k + 1) y0 y1 y2 y3 y4))
 | 0 => fun _ _ _ _ _ r h => by simp [edit_in.l0] at h
 | k + 1 => by
  have ih0 := edit_in.mono_l k
  ·intro y0 y1 y2 y3 y4
   unfold edit_in.l0
   repeat' first
  |(with_reducible exact ih0 _ _ _ _ _)
  |(with_reducible exact LeO.refl _)
  |(with_reducible exact LeO.none _)
  |(with_reducible refine LeO.ite ?_ ?_)
  |(with_reducible refine LeO.bind ?_ (fun _ => ?_))
  |exact ih0 _ _ _ _ _
  |exact LeO.none _
  |refine LeO.ite ?_ ?_
  |refine LeO.bind ?_ (fun _ => ?_)
theorem edit_in.mono : ∀ a0 a1 a2 k, LeO (edit_in.f k a0 a1 a2) (edit_in.f (k + 1) a0 a1 a2) := by
 intro a0 a1 a2 k
 have ih0 := edit_in.mono_l k
 unfold edit_in.f
 repeat' first
  |(with_reducible exact ih0 _ _ _ _ _)
  |(with_reducible exact LeO.refl _)
  |(with_reducible exact LeO.none _)
  |(with_reducible refine LeO.ite ?_ ?_)
  |(with_reducible refine LeO.bind ?_ (fun _ => ?_))
  |exact ih0 _ _ _ _ _
  |exact LeO.none _
  |refine LeO.ite ?_ ?_
  |refine LeO.bind ?_ (fun _ => ?_)
set_option maxHeartbeats 80000000 in
set_option maxRecDepth 100000 in
theorem edit_in.calls (k : Nat) (a0 : Int) (a1 : Int) (A2 : Option Addr) (c2 : Nat) (l2 : List Int) (r : Bool) (w : World) (hr2 : Kd.C (Kd.int .i64) w A2 l2.length l2) (hc2 : l2.length ≤ c2) (h : edit_in.f k a0 a1 l2 = some r) :
  Calls Try.prog 58 #[.int .i64 a0, .int .i64 a1, .slice A2 l2.length c2] w fun e w' => e = .returned (.bool r) ∧ Drawn0 w w' := by
 have HR2 := Aside0.mk hr2
 have HC2 := Aside0.mk hc2
 clear hr2 hc2
 have H : (edit_in.l0 k a0 a1 l2 (l2.length : Int) 0) = some r := h
 clear h
 have H' := Aside0.mk H
 clear H
 go_enter Try.func58, Try.ntmps58
 go_wp2
 go_loopg [11] k (fun kq v11 w' => ∃ (x11_1 : Int), v11 = .int .i64 x11_1 ∧ Aside0 (edit_in.l0 kq a0 a1 l2 (l2.length : Int) x11_1 = some r) ∧ Aside0 (kq ≤ k) ∧ Drawn0 w w')
 case atStart => exact ⟨(0), (by first | rfl|(simp; done)|(simp [*]; done)), H', ⟨Nat.le_refl _⟩, by repeat (first|exact Drawn0.refl _|apply Drawn0.step)⟩
 case round =>
  clear H'
  try clear c2
  try clear p2
  obtain ⟨x11_1, rfl, HA, HK1, ⟨m1, rfl⟩⟩ := hrel
  cases gk with
  | zero => exact absurd HA.out (by simp [edit_in.l0])
  | succ k1 =>
   have H := HA.out
   clear HA
   simp only [edit_in.l0] at H
   by_cases c4 : x11_1 < (l2.length : Int)
   ·rw [if_pos c4] at H
    have c4b0 : decide (x11_1 < (l2.length : Int)) = true := decide_eq_true c4
    clear c4
    by_cases c5 : 0 ≤ x11_1
    ·rw [if_pos c5] at H
     have c5b0 : decide (0 ≤ x11_1) = true := decide_eq_true c5
     clear c5
     by_cases c6 : x11_1 < (l2.length : Int)
     ·rw [if_pos c6] at H
      have c6b0 : decide (x11_1 < (l2.length : Int)) = true := decide_eq_true c6
      clear c6
      by_cases c7 : (rd l2 x11_1) < a0
      ·rw [if_pos c7] at H
       have c7b0 : decide ((rd l2 x11_1) < a0) = true := decide_eq_true c7
       clear c7
       obtain rfl := Option.some.inj H
       simp only [Option.some.injEq, Prod.mk.injEq] at H
       obtain ⟨rfl⟩ := H
       have p101 : 0 ≤ (x11_1 : Int) := of_decide_eq_true (by first|(with_reducible assumption) | assumption)
       have q101 : x11_1 < (l2.length : Int) := of_decide_eq_true (by first|(with_reducible assumption) | assumption)
       obtain ⟨ad101, e101, hx101_0⟩ := Kd.at_int HR2.out x11_1 p101 q101
       cases e101
       replace p101 := eq_true p101
       replace q101 := eq_true q101
       go_wp2
       go_ret
       exact ⟨by first | rfl|(simp; done)|(simp [*]; done), by repeat (first|exact Drawn0.refl _|apply Drawn0.step)⟩
      ·rw [if_neg c7] at H
       have c7b0 : decide ((rd l2 x11_1) < a0) = false := decide_eq_false c7
       clear c7
       by_cases c8 : (rd l2 x11_1) > a1
       ·rw [if_pos c8] at H
        have c8b0 : decide (a1 < (rd l2 x11_1)) = true := decide_eq_true c8
        clear c8
        obtain rfl := Option.some.inj H
        simp only [Option.some.injEq, Prod.mk.injEq] at H
        obtain ⟨rfl⟩ := H
        have p101 : 0 ≤ (x11_1 : Int) := of_decide_eq_true (by first|(with_reducible assumption) | assumption)
        have q101 : x11_1 < (l2.length : Int) := of_decide_eq_true (by first|(with_reducible assumption) | assumption)
        obtain ⟨ad101, e101, hx101_0⟩ := Kd.at_int HR2.out x11_1 p101 q101
        cases e101
        replace p101 := eq_true p101
        replace q101 := eq_true q101
        go_wp2
        go_ret
        exact ⟨by first | rfl|(simp; done)|(simp [*]; done), by repeat (first|exact Drawn0.refl _|apply Drawn0.step)⟩
       ·rw [if_neg c8] at H
        have c8b0 : decide (a1 < (rd l2 x11_1)) = false := decide_eq_false c8
        clear c8
        have H' := Aside0.mk H
        clear H
        have p101 : 0 ≤ (x11_1 : Int) := of_decide_eq_true (by first|(with_reducible assumption) | assumption)
        have q101 : x11_1 < (l2.length : Int) := of_decide_eq_true (by first|(with_reducible assumption) | assumption)
        obtain ⟨ad101, e101, hx101_0⟩ := Kd.at_int HR2.out x11_1 p101 q101
        cases e101
        replace p101 := eq_true p101
        replace q101 := eq_true q101
        go_wp2
        go_roundg k1
        case measure => have := HK1.out; omega
        case rel => exact ⟨(wrap64 (x11_1 + 1)), (by first | rfl|(simp; done)|(simp [*]; done)), H', ⟨by have := HK1.out; omega⟩, by repeat (first|exact Drawn0.refl _|apply Drawn0.step)⟩
     ·rw [if_neg c6] at H
      exact absurd H (by simp)
    ·rw [if_neg c5] at H
     exact absurd H (by simp)
   ·rw [if_neg c4] at H
    have c4b0 : decide (x11_1 < (l2.length : Int)) = false := decide_eq_false c4
    clear c4
    obtain rfl := Option.some.inj H
    simp only [Option.some.injEq, Prod.mk.injEq] at H
    obtain ⟨rfl⟩ := H
    go_wp2
    go_ret
    exact ⟨by first | rfl|(simp; done)|(simp [*]; done), by repeat (first|exact Drawn0.refl _|apply Drawn0.step)⟩

attribute [local go_sem] binOp_string_leq_ binOp_string_gtr_ binOp_string_geq_
/-! ### edit_file: function 59 -/
def edit_file.f (k : Nat) (a0_0 : Int) (a0_1 : Int) (a0_2 : Int) (a0_3 : ByteArray) (a0_4 : ByteArray) : Option (Bool) := (edit_in.f k 1 1125899906842624 (([a0_0] : List Int))).bind fun t106 => (if t106 = true then ((edit_in.f k 0 4 (([a0_1] : List Int))).bind fun t110 => (if t110 = true then ((edit_in.f k 0 16777216 (([a0_2] : List Int))).bind fun t114 => (if t114 = true then (if ((Op.bytesLess a0_4.toList a0_3.toList) = true) then (some false) else (if (a0_3.size : Int) ≤ 13000 then (some (decide ((a0_4.size : Int) ≤ 13000))) else (some false))) else (some false))) else (some false))) else (some false))
theorem edit_file.mono : ∀ a0 a1 a2 a3 a4 k, LeO (edit_file.f k a0 a1 a2 a3 a4) (edit_file.f (k + 1) a0 a1 a2 a3 a4) := by
 intro a0 a1 a2 a3 a4 k
 unfold edit_file.f
 repeat' first
  |(with_reducible exact edit_in.mono _ _ _ _)
  |(with_reducible exact LeO.refl _)
  |(with_reducible exact LeO.none _)
  |(with_reducible refine LeO.ite ?_ ?_)
  |(with_reducible refine LeO.bind ?_ (fun _ => ?_))
  |exact edit_in.mono _ _ _ _
  |exact LeO.none _
  |refine LeO.ite ?_ ?_
  |refine LeO.bind ?_ (fun _ => ?_)
set_option maxHeartbeats 80000000 in
set_option maxRecDepth 100000 in
theorem edit_file.calls (k : Nat) (a0_0 : Int) (a0_1 : Int) (a0_2 : Int) (a0_3 : ByteArray) (a0_4 : ByteArray) (r : Bool) (w : World) (h : edit_file.f k a0_0 a0_1 a0_2 a0_3 a0_4 = some r) :
  Calls Try.prog 59 #[.agg #[.int .i64 a0_0, .int .i64 a0_1, .int .i64 a0_2, .string a0_3, .string a0_4]] w fun e w' => e = .returned (.bool r) ∧ Below w.heap.size w w' := by
 have hu55 := Try.underlying55
 have HB := Aside0.mk (Below.refl w.heap.size w)
 have H : ((edit_in.f k 1 1125899906842624 (([a0_0] : List Int))).bind fun t106 => (if t106 = true then ((edit_in.f k 0 4 (([a0_1] : List Int))).bind fun t110 => (if t110 = true then ((edit_in.f k 0 16777216 (([a0_2] : List Int))).bind fun t114 => (if t114 = true then (if ((Op.bytesLess a0_4.toList a0_3.toList) = true) then (some false) else (if (a0_3.size : Int) ≤ 13000 then (some (decide ((a0_4.size : Int) ≤ 13000))) else (some false))) else (some false))) else (some false))) else (some false))) = some r := h
 clear h
 obtain ⟨y103, hy103⟩ : ∃ y_ : List Int, y_ = (([a0_0] : List Int)) := ⟨_, rfl⟩
 replace H : ((edit_in.f k 1 1125899906842624 y103).bind fun t106 => (if t106 = true then ((edit_in.f k 0 4 (([a0_1] : List Int))).bind fun t110 => (if t110 = true then ((edit_in.f k 0 16777216 (([a0_2] : List Int))).bind fun t114 => (if t114 = true then (if ((Op.bytesLess a0_4.toList a0_3.toList) = true) then (some false) else (if (a0_3.size : Int) ≤ 13000 then (some (decide ((a0_4.size : Int) ≤ 13000))) else (some false))) else (some false))) else (some false))) else (some false))) = some r := by first|(rw [hy103];with_reducible exact H)|(have H2_ := (Option.bind_some _ _).symm.trans H;rw [hy103];with_reducible exact H2_)|(have H2_ := (Option.bind_some _ _).symm.trans H;with_reducible exact H2_) | with_reducible exact H|(rw [hy103];exact H)|exact H
 have Ny103 := Aside0.mk hy103
 clear hy103
 replace H := Option.bind_eq_some_iff.mp H
 obtain ⟨t106, A20, H⟩ := H
 replace H : (if t106 = true then ((edit_in.f k 0 4 (([a0_1] : List Int))).bind fun t110 => (if t110 = true then ((edit_in.f k 0 16777216 (([a0_2] : List Int))).bind fun t114 => (if t114 = true then (if ((Op.bytesLess a0_4.toList a0_3.toList) = true) then (some false) else (if (a0_3.size : Int) ≤ 13000 then (some (decide ((a0_4.size : Int) ≤ 13000))) else (some false))) else (some false))) else (some false))) else (some false)) = some r := H
 have A2 := Aside0.mk A20
 clear A20
 by_cases c3 : t106 = true
 ·subst c3
  have H1 : ((edit_in.f k 0 4 (([a0_1] : List Int))).bind fun t110 => (if t110 = true then ((edit_in.f k 0 16777216 (([a0_2] : List Int))).bind fun t114 => (if t114 = true then (if ((Op.bytesLess a0_4.toList a0_3.toList) = true) then (some false) else (if (a0_3.size : Int) ≤ 13000 then (some (decide ((a0_4.size : Int) ≤ 13000))) else (some false))) else (some false))) else (some false))) = some r := by rw [if_pos rfl] at H;exact H
  clear H
  have H := H1
  clear H1
  obtain ⟨y107, hy107⟩ : ∃ y_ : List Int, y_ = (([a0_1] : List Int)) := ⟨_, rfl⟩
  replace H : ((edit_in.f k 0 4 y107).bind fun t110 => (if t110 = true then ((edit_in.f k 0 16777216 (([a0_2] : List Int))).bind fun t114 => (if t114 = true then (if ((Op.bytesLess a0_4.toList a0_3.toList) = true) then (some false) else (if (a0_3.size : Int) ≤ 13000 then (some (decide ((a0_4.size : Int) ≤ 13000))) else (some false))) else (some false))) else (some false))) = some r := by first|(rw [hy107];with_reducible exact H)|(have H2_ := (Option.bind_some _ _).symm.trans H;rw [hy107];with_reducible exact H2_)|(have H2_ := (Option.bind_some _ _).symm.trans H;with_reducible exact H2_) | with_reducible exact H|(rw [hy107];exact H)|exact H
  have Ny107 := Aside0.mk hy107
  clear hy107
  replace H := Option.bind_eq_some_iff.mp H
  obtain ⟨t110, A40, H⟩ := H
  replace H : (if t110 = true then ((edit_in.f k 0 16777216 (([a0_2] : List Int))).bind fun t114 => (if t114 = true then (if ((Op.bytesLess a0_4.toList a0_3.toList) = true) then (some false) else (if (a0_3.size : Int) ≤ 13000 then (some (decide ((a0_4.size : Int) ≤ 13000))) else (some false))) else (some false))) else (some false)) = some r := H
  have A4 := Aside0.mk A40
  clear A40
  by_cases c5 : t110 = true
  ·subst c5
   have H1 : ((edit_in.f k 0 16777216 (([a0_2] : List Int))).bind fun t114 => (if t114 = true then (if ((Op.bytesLess a0_4.toList a0_3.toList) = true) then (some false) else (if (a0_3.size : Int) ≤ 13000 then (some (decide ((a0_4.size : Int) ≤ 13000))) else (some false))) else (some false))) = some r := by rw [if_pos rfl] at H;exact H
   clear H
   have H := H1
   clear H1
   obtain ⟨y111, hy111⟩ : ∃ y_ : List Int, y_ = (([a0_2] : List Int)) := ⟨_, rfl⟩
   replace H : ((edit_in.f k 0 16777216 y111).bind fun t114 => (if t114 = true then (if ((Op.bytesLess a0_4.toList a0_3.toList) = true) then (some false) else (if (a0_3.size : Int) ≤ 13000 then (some (decide ((a0_4.size : Int) ≤ 13000))) else (some false))) else (some false))) = some r := by first|(rw [hy111];with_reducible exact H)|(have H2_ := (Option.bind_some _ _).symm.trans H;rw [hy111];with_reducible exact H2_)|(have H2_ := (Option.bind_some _ _).symm.trans H;with_reducible exact H2_) | with_reducible exact H|(rw [hy111];exact H)|exact H
   have Ny111 := Aside0.mk hy111
   clear hy111
   replace H := Option.bind_eq_some_iff.mp H
   obtain ⟨t114, A60, H⟩ := H
   replace H : (if t114 = true then (if ((Op.bytesLess a0_4.toList a0_3.toList) = true) then (some false) else (if (a0_3.size : Int) ≤ 13000 then (some (decide ((a0_4.size : Int) ≤ 13000))) else (some false))) else (some false)) = some r := H
   have A6 := Aside0.mk A60
   clear A60
   by_cases c7 : t114 = true
   ·subst c7
    have H1 : (if ((Op.bytesLess a0_4.toList a0_3.toList) = true) then (some false) else (if (a0_3.size : Int) ≤ 13000 then (some (decide ((a0_4.size : Int) ≤ 13000))) else (some false))) = some r := by rw [if_pos rfl] at H;exact H
    clear H
    have H := H1
    clear H1
    by_cases c8 : ((Op.bytesLess a0_4.toList a0_3.toList) = true)
    ·rw [if_pos c8] at H
     have c8b0 : (Op.bytesLess a0_4.toList a0_3.toList) = true := c8
     clear c8
     obtain rfl := Option.some.inj H
     simp only [Option.some.injEq, Prod.mk.injEq] at H
     obtain ⟨rfl⟩ := H
     go_enter Try.func59, Try.ntmps59
     go_wp2_with (first|((with_reducible refine gate_dst (N := 1) rfl ?_);(try (refine gate_guard (by rfl) ?_;dsimp only));refine box_event ?hg (N := 1) ?hd (cs := #[.int .i64 a0_0,.int .i64 a0_1,.int .i64 a0_2,.string a0_3,.string a0_4]) (t := 55) ?hr ?_;(case hd => rfl);(case hg => rfl);(case hr => first|(go_simp;done)|(go_simp;rfl));intro gb102 hg w9 hbox hb;have n0_ := Aside0.mk (below_step (by repeat (first|(with_reducible first|exact HB.out|apply below_alloc|apply pw_below_drewN|apply below_drew1)|exact HB.out)) hb);have n1_ := Aside0.mk (hbox);have n2_ := Aside0.mk ((by rw [hg];exact (below_size (by repeat (first|(with_reducible first|exact HB.out|apply below_alloc|apply pw_below_drewN|apply below_drew1)|exact HB.out))) : w.heap.size ≤ gb102));have n3_ := Aside0.mk ((by rw [hg];exact (below_size (by repeat (first|(with_reducible first|exact HB.out|apply below_alloc|apply pw_below_drewN|apply below_drew1)|exact HB.out))) : w.heap.size ≤ gb102));clear HB;have HB := n0_;have BK102 := n1_;have GW102 := n2_;have GE102 := n3_;clear n0_ n1_ n2_ n3_;clear hb hbox hg;have hcz10_0 : w9.cell? ⟨gb102,0,none⟩ = some (.int .i64 a0_0) := (blk_cell BK102.out 0).trans rfl;have hcz10_1 : w9.cell? ⟨gb102,1,none⟩ = some (.int .i64 a0_1) := (blk_cell BK102.out 1).trans rfl;have hcz10_2 : w9.cell? ⟨gb102,2,none⟩ = some (.int .i64 a0_2) := (blk_cell BK102.out 2).trans rfl;have hcz10_3 : w9.cell? ⟨gb102,3,none⟩ = some (.string a0_3) := (blk_cell BK102.out 3).trans rfl;have hcz10_4 : w9.cell? ⟨gb102,4,none⟩ = some (.string a0_4) := (blk_cell BK102.out 4).trans rfl;have hfz10_0 := blk_frozen BK102.out 0;have hfz10_1 := blk_frozen BK102.out 1;have hfz10_2 := blk_frozen BK102.out 2;have hfz10_3 := blk_frozen BK102.out 3;have hfz10_4 := blk_frozen BK102.out 4)|((with_reducible refine gate_dst (N := 5) rfl ?_);(try (refine gate_guard (by rfl) ?_;dsimp only));refine Kd.R_lit (Kd.int .i64) _ 2 ?hg (N := 5) ?hd (xs := ([a0_0] : List Int)) (inner := [.int .i64 a0_0]) (ok := fun _ => True) (okp := fun _ => True) ?hr ?hp (fun _ hk => hk) trivial (Below.refl _ _) (Nat.le_refl _) (by simp) ?_;(case hd => rfl);(case hg => rfl);(case hr => first|(go_simp;done)|(go_simp;rfl));(case hp => exact (Reps.one (show Kd.M (Kd.int .i64) _ _ _ a0_0 [.int .i64 a0_0] from rfl) (Reps.none _ _)));intro v104 w11 ho12 hb hg_ hnew_;clear hg_ hnew_;(first | rw [← Ny103.out] at ho12|(simp only [Int.reduceToNat] at ho12;rw [← Ny103.out] at ho12));have n0_ := Aside0.mk (Kd.R_lower ho12 (below_size (by repeat (first|(with_reducible first|exact HB.out|apply below_alloc|apply pw_below_drewN|apply below_drew1|refine below_set ?_ GE102.out)|exact HB.out))));have n1_ := Aside0.mk (blk_below (g := gb102) (o := .cells #[.int .i64 a0_0,.int .i64 a0_1,.int .i64 a0_2,.string a0_3,.string a0_4] 55 (0,0)) (by (with_reducible repeat (first|refine blk_drewN ?_ _|refine blk_drew ?_|refine blk_alloc ?_ _));exact BK102.out) hb);have n2_ := Aside0.mk (below_step (by repeat (first|(with_reducible first|exact HB.out|apply below_alloc|apply pw_below_drewN|apply below_drew1|refine below_set ?_ GE102.out)|exact HB.out)) hb);clear BK102;clear HB;have HO105 := n0_;have BK102 := n1_;have HB := n2_;clear n0_ n1_ n2_;clear hb ho12;obtain ⟨Ao13,co13,eo13⟩ := Kd.R_slice HO105.out;subst eo13)|((with_reducible refine gate_callee (f := 58) rfl ?_);refine goesL_ (some 6) rfl rfl Try.func58 (by kernel_rfl) rfl #[.int .i64 1,.int .i64 1125899906842624,.slice Ao13 y103.length co13] rfl (by (try simp only [List.map_toArray,List.map_cons,List.map_nil]);first | done | rfl|(simp only [List.length_drop,List.length_take];rfl)) ?_;(with_reducible refine (edit_in.calls k 1 1125899906842624 _ _ y103 true _ ?side1 ?side2 A2.out).mono ?_);(case side1 => repeat (first|exact (Kd.R_reads' HO105.out).2.2|(with_reducible refine Kd.C_alloc ?_ _)|(with_reducible refine Kd.C_drewN ?_ _)|(with_reducible refine Kd.C_drew ?_)));(case side2 => exact (Kd.R_reads' HO105.out).2.1);rintro e w' ⟨rfl,⟨nd,rfl⟩⟩;refine ⟨_,rfl,?_⟩;have hcz14_0 : w11.cell? ⟨gb102,0,none⟩ = some (.int .i64 a0_0) := (blk_cell BK102.out 0).trans rfl;have hcz14_1 : w11.cell? ⟨gb102,1,none⟩ = some (.int .i64 a0_1) := (blk_cell BK102.out 1).trans rfl;have hcz14_2 : w11.cell? ⟨gb102,2,none⟩ = some (.int .i64 a0_2) := (blk_cell BK102.out 2).trans rfl;have hcz14_3 : w11.cell? ⟨gb102,3,none⟩ = some (.string a0_3) := (blk_cell BK102.out 3).trans rfl;have hcz14_4 : w11.cell? ⟨gb102,4,none⟩ = some (.string a0_4) := (blk_cell BK102.out 4).trans rfl;have hfz14_0 := blk_frozen BK102.out 0;have hfz14_1 := blk_frozen BK102.out 1;have hfz14_2 := blk_frozen BK102.out 2;have hfz14_3 := blk_frozen BK102.out 3;have hfz14_4 := blk_frozen BK102.out 4)|((with_reducible refine gate_dst (N := 10) rfl ?_);(try (refine gate_guard (by rfl) ?_;dsimp only));refine Kd.R_lit (Kd.int .i64) _ 2 ?hg (N := 10) ?hd (xs := ([a0_1] : List Int)) (inner := [.int .i64 a0_1]) (ok := fun _ => True) (okp := fun _ => True) ?hr ?hp (fun _ hk => hk) trivial (Below.refl _ _) (Nat.le_refl _) (by simp) ?_;(case hd => rfl);(case hg => rfl);(case hr => first|(go_simp;done)|(go_simp;rfl));(case hp => exact (Reps.one (show Kd.M (Kd.int .i64) _ _ _ a0_1 [.int .i64 a0_1] from rfl) (Reps.none _ _)));intro v108 w15 ho16 hb hg_ hnew_;clear hg_ hnew_;(first | rw [← Ny107.out] at ho16|(simp only [Int.reduceToNat] at ho16;rw [← Ny107.out] at ho16));have n0_ := Aside0.mk (Kd.R_elder' (by (with_reducible repeat (first|apply Kd.R_alloc|apply Kd.R_drewN|apply Kd.R_drew));exact HO105.out) (Kd.R_base ho16) hb);have n1_ := Aside0.mk (Kd.R_lower (Kd.R_new' ho16 (Kd.R_lt (by (with_reducible repeat (first|apply Kd.R_alloc|apply Kd.R_drewN|apply Kd.R_drew));exact HO105.out))) (below_size (by repeat (first|(with_reducible first|exact HB.out|apply below_alloc|apply pw_below_drewN|apply below_drew1|refine below_set ?_ GE102.out)|exact HB.out))));have n2_ := Aside0.mk (blk_below (g := gb102) (o := .cells #[.int .i64 a0_0,.int .i64 a0_1,.int .i64 a0_2,.string a0_3,.string a0_4] 55 (0,0)) (by (with_reducible repeat (first|refine blk_drewN ?_ _|refine blk_drew ?_|refine blk_alloc ?_ _));exact BK102.out) hb);have n3_ := Aside0.mk (below_step (by repeat (first|(with_reducible first|exact HB.out|apply below_alloc|apply pw_below_drewN|apply below_drew1|refine below_set ?_ GE102.out)|exact HB.out)) hb);clear HO105;clear BK102;clear HB;have HO105 := n0_;have HO109 := n1_;have BK102 := n2_;have HB := n3_;clear n0_ n1_ n2_ n3_;clear hb ho16;obtain ⟨Ao17,co17,eo17⟩ := Kd.R_slice HO109.out;subst eo17)|(go_at_call 58;(with_reducible refine (edit_in.calls k 0 4 _ _ y107 true _ ?side1 ?side2 A4.out).mono ?_);(case side1 => repeat (first|exact (Kd.R_reads' HO109.out).2.2|(with_reducible refine Kd.C_alloc ?_ _)|(with_reducible refine Kd.C_drewN ?_ _)|(with_reducible refine Kd.C_drew ?_)));(case side2 => exact (Kd.R_reads' HO109.out).2.1);rintro e w' ⟨rfl,⟨nd,rfl⟩⟩;have hcz18_0 : w15.cell? ⟨gb102,0,none⟩ = some (.int .i64 a0_0) := (blk_cell BK102.out 0).trans rfl;have hcz18_1 : w15.cell? ⟨gb102,1,none⟩ = some (.int .i64 a0_1) := (blk_cell BK102.out 1).trans rfl;have hcz18_2 : w15.cell? ⟨gb102,2,none⟩ = some (.int .i64 a0_2) := (blk_cell BK102.out 2).trans rfl;have hcz18_3 : w15.cell? ⟨gb102,3,none⟩ = some (.string a0_3) := (blk_cell BK102.out 3).trans rfl;have hcz18_4 : w15.cell? ⟨gb102,4,none⟩ = some (.string a0_4) := (blk_cell BK102.out 4).trans rfl;have hfz18_0 := blk_frozen BK102.out 0;have hfz18_1 := blk_frozen BK102.out 1;have hfz18_2 := blk_frozen BK102.out 2;have hfz18_3 := blk_frozen BK102.out 3;have hfz18_4 := blk_frozen BK102.out 4)|((with_reducible refine gate_dst (N := 16) rfl ?_);(try (refine gate_guard (by rfl) ?_;dsimp only));refine Kd.R_lit (Kd.int .i64) _ 2 ?hg (N := 16) ?hd (xs := ([a0_2] : List Int)) (inner := [.int .i64 a0_2]) (ok := fun _ => True) (okp := fun _ => True) ?hr ?hp (fun _ hk => hk) trivial (Below.refl _ _) (Nat.le_refl _) (by simp) ?_;(case hd => rfl);(case hg => rfl);(case hr => first|(go_simp;done)|(go_simp;rfl));(case hp => exact (Reps.one (show Kd.M (Kd.int .i64) _ _ _ a0_2 [.int .i64 a0_2] from rfl) (Reps.none _ _)));intro v112 w19 ho20 hb hg_ hnew_;clear hg_ hnew_;(first | rw [← Ny111.out] at ho20|(simp only [Int.reduceToNat] at ho20;rw [← Ny111.out] at ho20));have n0_ := Aside0.mk (Kd.R_elder' (by (with_reducible repeat (first|apply Kd.R_alloc|apply Kd.R_drewN|apply Kd.R_drew));exact HO105.out) (Kd.R_base ho20) hb);have n1_ := Aside0.mk (Kd.R_elder' (by (with_reducible repeat (first|apply Kd.R_alloc|apply Kd.R_drewN|apply Kd.R_drew));exact HO109.out) (Kd.R_base ho20) hb);have n2_ := Aside0.mk (Kd.R_lower (Kd.R_new' (Kd.R_new' ho20 (Kd.R_lt (by (with_reducible repeat (first|apply Kd.R_alloc|apply Kd.R_drewN|apply Kd.R_drew));exact HO105.out))) (Kd.R_lt (by (with_reducible repeat (first|apply Kd.R_alloc|apply Kd.R_drewN|apply Kd.R_drew));exact HO109.out))) (below_size (by repeat (first|(with_reducible first|exact HB.out|apply below_alloc|apply pw_below_drewN|apply below_drew1|refine below_set ?_ GE102.out)|exact HB.out))));have n3_ := Aside0.mk (blk_below (g := gb102) (o := .cells #[.int .i64 a0_0,.int .i64 a0_1,.int .i64 a0_2,.string a0_3,.string a0_4] 55 (0,0)) (by (with_reducible repeat (first|refine blk_drewN ?_ _|refine blk_drew ?_|refine blk_alloc ?_ _));exact BK102.out) hb);have n4_ := Aside0.mk (below_step (by repeat (first|(with_reducible first|exact HB.out|apply below_alloc|apply pw_below_drewN|apply below_drew1|refine below_set ?_ GE102.out)|exact HB.out)) hb);clear HO105;clear HO109;clear BK102;clear HB;have HO105 := n0_;have HO109 := n1_;have HO113 := n2_;have BK102 := n3_;have HB := n4_;clear n0_ n1_ n2_ n3_ n4_;clear hb ho20;obtain ⟨Ao21,co21,eo21⟩ := Kd.R_slice HO113.out;subst eo21)|(go_at_call 58;(with_reducible refine (edit_in.calls k 0 16777216 _ _ y111 true _ ?side1 ?side2 A6.out).mono ?_);(case side1 => repeat (first|exact (Kd.R_reads' HO113.out).2.2|(with_reducible refine Kd.C_alloc ?_ _)|(with_reducible refine Kd.C_drewN ?_ _)|(with_reducible refine Kd.C_drew ?_)));(case side2 => exact (Kd.R_reads' HO113.out).2.1);rintro e w' ⟨rfl,⟨nd,rfl⟩⟩;have hcz22_0 : w19.cell? ⟨gb102,0,none⟩ = some (.int .i64 a0_0) := (blk_cell BK102.out 0).trans rfl;have hcz22_1 : w19.cell? ⟨gb102,1,none⟩ = some (.int .i64 a0_1) := (blk_cell BK102.out 1).trans rfl;have hcz22_2 : w19.cell? ⟨gb102,2,none⟩ = some (.int .i64 a0_2) := (blk_cell BK102.out 2).trans rfl;have hcz22_3 : w19.cell? ⟨gb102,3,none⟩ = some (.string a0_3) := (blk_cell BK102.out 3).trans rfl;have hcz22_4 : w19.cell? ⟨gb102,4,none⟩ = some (.string a0_4) := (blk_cell BK102.out 4).trans rfl;have hfz22_0 := blk_frozen BK102.out 0;have hfz22_1 := blk_frozen BK102.out 1;have hfz22_2 := blk_frozen BK102.out 2;have hfz22_3 := blk_frozen BK102.out 3;have hfz22_4 := blk_frozen BK102.out 4))
     go_ret
     exact ⟨by first | rfl|(simp [errW_none,errW_some] <;> rfl)|(simp [*,errW_none,errW_some] <;> rfl),by repeat (first|(with_reducible first|exact HB.out|apply below_alloc|apply pw_below_drewN|apply below_drew1|refine below_set ?_ GE102.out)|exact HB.out)⟩
    ·rw [if_neg c8] at H
     have c8b0 : (Op.bytesLess a0_4.toList a0_3.toList) = false := by simpa using c8
     clear c8
     by_cases c23 : (a0_3.size : Int) ≤ 13000
     ·rw [if_pos c23] at H
      have c23b0 : decide ((a0_3.size : Int) ≤ 13000) = true := decide_eq_true c23
      have c23b1 : decide (a0_3.size ≤ 13000) = true := decide_eq_true (by omega)
      clear c23
      obtain rfl := Option.some.inj H
      simp only [Option.some.injEq, Prod.mk.injEq] at H
      obtain ⟨rfl⟩ := H
      go_enter Try.func59, Try.ntmps59
      go_wp2_with (first|((with_reducible refine gate_dst (N := 1) rfl ?_);(try (refine gate_guard (by rfl) ?_;dsimp only));refine box_event ?hg (N := 1) ?hd (cs := #[.int .i64 a0_0,.int .i64 a0_1,.int .i64 a0_2,.string a0_3,.string a0_4]) (t := 55) ?hr ?_;(case hd => rfl);(case hg => rfl);(case hr => first|(go_simp;done)|(go_simp;rfl));intro gb102 hg w24 hbox hb;have n0_ := Aside0.mk (below_step (by repeat (first|(with_reducible first|exact HB.out|apply below_alloc|apply pw_below_drewN|apply below_drew1)|exact HB.out)) hb);have n1_ := Aside0.mk (hbox);have n2_ := Aside0.mk ((by rw [hg];exact (below_size (by repeat (first|(with_reducible first|exact HB.out|apply below_alloc|apply pw_below_drewN|apply below_drew1)|exact HB.out))) : w.heap.size ≤ gb102));have n3_ := Aside0.mk ((by rw [hg];exact (below_size (by repeat (first|(with_reducible first|exact HB.out|apply below_alloc|apply pw_below_drewN|apply below_drew1)|exact HB.out))) : w.heap.size ≤ gb102));clear HB;have HB := n0_;have BK102 := n1_;have GW102 := n2_;have GE102 := n3_;clear n0_ n1_ n2_ n3_;clear hb hbox hg;have hcz25_0 : w24.cell? ⟨gb102,0,none⟩ = some (.int .i64 a0_0) := (blk_cell BK102.out 0).trans rfl;have hcz25_1 : w24.cell? ⟨gb102,1,none⟩ = some (.int .i64 a0_1) := (blk_cell BK102.out 1).trans rfl;have hcz25_2 : w24.cell? ⟨gb102,2,none⟩ = some (.int .i64 a0_2) := (blk_cell BK102.out 2).trans rfl;have hcz25_3 : w24.cell? ⟨gb102,3,none⟩ = some (.string a0_3) := (blk_cell BK102.out 3).trans rfl;have hcz25_4 : w24.cell? ⟨gb102,4,none⟩ = some (.string a0_4) := (blk_cell BK102.out 4).trans rfl;have hfz25_0 := blk_frozen BK102.out 0;have hfz25_1 := blk_frozen BK102.out 1;have hfz25_2 := blk_frozen BK102.out 2;have hfz25_3 := blk_frozen BK102.out 3;have hfz25_4 := blk_frozen BK102.out 4)|((with_reducible refine gate_dst (N := 5) rfl ?_);(try (refine gate_guard (by rfl) ?_;dsimp only));refine Kd.R_lit (Kd.int .i64) _ 2 ?hg (N := 5) ?hd (xs := ([a0_0] : List Int)) (inner := [.int .i64 a0_0]) (ok := fun _ => True) (okp := fun _ => True) ?hr ?hp (fun _ hk => hk) trivial (Below.refl _ _) (Nat.le_refl _) (by simp) ?_;(case hd => rfl);(case hg => rfl);(case hr => first|(go_simp;done)|(go_simp;rfl));(case hp => exact (Reps.one (show Kd.M (Kd.int .i64) _ _ _ a0_0 [.int .i64 a0_0] from rfl) (Reps.none _ _)));intro v104 w26 ho27 hb hg_ hnew_;clear hg_ hnew_;(first | rw [← Ny103.out] at ho27|(simp only [Int.reduceToNat] at ho27;rw [← Ny103.out] at ho27));have n0_ := Aside0.mk (Kd.R_lower ho27 (below_size (by repeat (first|(with_reducible first|exact HB.out|apply below_alloc|apply pw_below_drewN|apply below_drew1|refine below_set ?_ GE102.out)|exact HB.out))));have n1_ := Aside0.mk (blk_below (g := gb102) (o := .cells #[.int .i64 a0_0,.int .i64 a0_1,.int .i64 a0_2,.string a0_3,.string a0_4] 55 (0,0)) (by (with_reducible repeat (first|refine blk_drewN ?_ _|refine blk_drew ?_|refine blk_alloc ?_ _));exact BK102.out) hb);have n2_ := Aside0.mk (below_step (by repeat (first|(with_reducible first|exact HB.out|apply below_alloc|apply pw_below_drewN|apply below_drew1|refine below_set ?_ GE102.out)|exact HB.out)) hb);clear BK102;clear HB;have HO105 := n0_;have BK102 := n1_;have HB := n2_;clear n0_ n1_ n2_;clear hb ho27;obtain ⟨Ao28,co28,eo28⟩ := Kd.R_slice HO105.out;subst eo28)|((with_reducible refine gate_callee (f := 58) rfl ?_);refine goesL_ (some 6) rfl rfl Try.func58 (by kernel_rfl) rfl #[.int .i64 1,.int .i64 1125899906842624,.slice Ao28 y103.length co28] rfl (by (try simp only [List.map_toArray,List.map_cons,List.map_nil]);first | done | rfl|(simp only [List.length_drop,List.length_take];rfl)) ?_;(with_reducible refine (edit_in.calls k 1 1125899906842624 _ _ y103 true _ ?side1 ?side2 A2.out).mono ?_);(case side1 => repeat (first|exact (Kd.R_reads' HO105.out).2.2|(with_reducible refine Kd.C_alloc ?_ _)|(with_reducible refine Kd.C_drewN ?_ _)|(with_reducible refine Kd.C_drew ?_)));(case side2 => exact (Kd.R_reads' HO105.out).2.1);rintro e w' ⟨rfl,⟨nd,rfl⟩⟩;refine ⟨_,rfl,?_⟩;have hcz29_0 : w26.cell? ⟨gb102,0,none⟩ = some (.int .i64 a0_0) := (blk_cell BK102.out 0).trans rfl;have hcz29_1 : w26.cell? ⟨gb102,1,none⟩ = some (.int .i64 a0_1) := (blk_cell BK102.out 1).trans rfl;have hcz29_2 : w26.cell? ⟨gb102,2,none⟩ = some (.int .i64 a0_2) := (blk_cell BK102.out 2).trans rfl;have hcz29_3 : w26.cell? ⟨gb102,3,none⟩ = some (.string a0_3) := (blk_cell BK102.out 3).trans rfl;have hcz29_4 : w26.cell? ⟨gb102,4,none⟩ = some (.string a0_4) := (blk_cell BK102.out 4).trans rfl;have hfz29_0 := blk_frozen BK102.out 0;have hfz29_1 := blk_frozen BK102.out 1;have hfz29_2 := blk_frozen BK102.out 2;have hfz29_3 := blk_frozen BK102.out 3;have hfz29_4 := blk_frozen BK102.out 4)|((with_reducible refine gate_dst (N := 10) rfl ?_);(try (refine gate_guard (by rfl) ?_;dsimp only));refine Kd.R_lit (Kd.int .i64) _ 2 ?hg (N := 10) ?hd (xs := ([a0_1] : List Int)) (inner := [.int .i64 a0_1]) (ok := fun _ => True) (okp := fun _ => True) ?hr ?hp (fun _ hk => hk) trivial (Below.refl _ _) (Nat.le_refl _) (by simp) ?_;(case hd => rfl);(case hg => rfl);(case hr => first|(go_simp;done)|(go_simp;rfl));(case hp => exact (Reps.one (show Kd.M (Kd.int .i64) _ _ _ a0_1 [.int .i64 a0_1] from rfl) (Reps.none _ _)));intro v108 w30 ho31 hb hg_ hnew_;clear hg_ hnew_;(first | rw [← Ny107.out] at ho31|(simp only [Int.reduceToNat] at ho31;rw [← Ny107.out] at ho31));have n0_ := Aside0.mk (Kd.R_elder' (by (with_reducible repeat (first|apply Kd.R_alloc|apply Kd.R_drewN|apply Kd.R_drew));exact HO105.out) (Kd.R_base ho31) hb);have n1_ := Aside0.mk (Kd.R_lower (Kd.R_new' ho31 (Kd.R_lt (by (with_reducible repeat (first|apply Kd.R_alloc|apply Kd.R_drewN|apply Kd.R_drew));exact HO105.out))) (below_size (by repeat (first|(with_reducible first|exact HB.out|apply below_alloc|apply pw_below_drewN|apply below_drew1|refine below_set ?_ GE102.out)|exact HB.out))));have n2_ := Aside0.mk (blk_below (g := gb102) (o := .cells #[.int .i64 a0_0,.int .i64 a0_1,.int .i64 a0_2,.string a0_3,.string a0_4] 55 (0,0)) (by (with_reducible repeat (first|refine blk_drewN ?_ _|refine blk_drew ?_|refine blk_alloc ?_ _));exact BK102.out) hb);have n3_ := Aside0.mk (below_step (by repeat (first|(with_reducible first|exact HB.out|apply below_alloc|apply pw_below_drewN|apply below_drew1|refine below_set ?_ GE102.out)|exact HB.out)) hb);clear HO105;clear BK102;clear HB;have HO105 := n0_;have HO109 := n1_;have BK102 := n2_;have HB := n3_;clear n0_ n1_ n2_ n3_;clear hb ho31;obtain ⟨Ao32,co32,eo32⟩ := Kd.R_slice HO109.out;subst eo32)|(go_at_call 58;(with_reducible refine (edit_in.calls k 0 4 _ _ y107 true _ ?side1 ?side2 A4.out).mono ?_);(case side1 => repeat (first|exact (Kd.R_reads' HO109.out).2.2|(with_reducible refine Kd.C_alloc ?_ _)|(with_reducible refine Kd.C_drewN ?_ _)|(with_reducible refine Kd.C_drew ?_)));(case side2 => exact (Kd.R_reads' HO109.out).2.1);rintro e w' ⟨rfl,⟨nd,rfl⟩⟩;have hcz33_0 : w30.cell? ⟨gb102,0,none⟩ = some (.int .i64 a0_0) := (blk_cell BK102.out 0).trans rfl;have hcz33_1 : w30.cell? ⟨gb102,1,none⟩ = some (.int .i64 a0_1) := (blk_cell BK102.out 1).trans rfl;have hcz33_2 : w30.cell? ⟨gb102,2,none⟩ = some (.int .i64 a0_2) := (blk_cell BK102.out 2).trans rfl;have hcz33_3 : w30.cell? ⟨gb102,3,none⟩ = some (.string a0_3) := (blk_cell BK102.out 3).trans rfl;have hcz33_4 : w30.cell? ⟨gb102,4,none⟩ = some (.string a0_4) := (blk_cell BK102.out 4).trans rfl;have hfz33_0 := blk_frozen BK102.out 0;have hfz33_1 := blk_frozen BK102.out 1;have hfz33_2 := blk_frozen BK102.out 2;have hfz33_3 := blk_frozen BK102.out 3;have hfz33_4 := blk_frozen BK102.out 4)|((with_reducible refine gate_dst (N := 16) rfl ?_);(try (refine gate_guard (by rfl) ?_;dsimp only));refine Kd.R_lit (Kd.int .i64) _ 2 ?hg (N := 16) ?hd (xs := ([a0_2] : List Int)) (inner := [.int .i64 a0_2]) (ok := fun _ => True) (okp := fun _ => True) ?hr ?hp (fun _ hk => hk) trivial (Below.refl _ _) (Nat.le_refl _) (by simp) ?_;(case hd => rfl);(case hg => rfl);(case hr => first|(go_simp;done)|(go_simp;rfl));(case hp => exact (Reps.one (show Kd.M (Kd.int .i64) _ _ _ a0_2 [.int .i64 a0_2] from rfl) (Reps.none _ _)));intro v112 w34 ho35 hb hg_ hnew_;clear hg_ hnew_;(first | rw [← Ny111.out] at ho35|(simp only [Int.reduceToNat] at ho35;rw [← Ny111.out] at ho35));have n0_ := Aside0.mk (Kd.R_elder' (by (with_reducible repeat (first|apply Kd.R_alloc|apply Kd.R_drewN|apply Kd.R_drew));exact HO105.out) (Kd.R_base ho35) hb);have n1_ := Aside0.mk (Kd.R_elder' (by (with_reducible repeat (first|apply Kd.R_alloc|apply Kd.R_drewN|apply Kd.R_drew));exact HO109.out) (Kd.R_base ho35) hb);have n2_ := Aside0.mk (Kd.R_lower (Kd.R_new' (Kd.R_new' ho35 (Kd.R_lt (by (with_reducible repeat (first|apply Kd.R_alloc|apply Kd.R_drewN|apply Kd.R_drew));exact HO105.out))) (Kd.R_lt (by (with_reducible repeat (first|apply Kd.R_alloc|apply Kd.R_drewN|apply Kd.R_drew));exact HO109.out))) (below_size (by repeat (first|(with_reducible first|exact HB.out|apply below_alloc|apply pw_below_drewN|apply below_drew1|refine below_set ?_ GE102.out)|exact HB.out))));have n3_ := Aside0.mk (blk_below (g := gb102) (o := .cells #[.int .i64 a0_0,.int .i64 a0_1,.int .i64 a0_2,.string a0_3,.string a0_4] 55 (0,0)) (by (with_reducible repeat (first|refine blk_drewN ?_ _|refine blk_drew ?_|refine blk_alloc ?_ _));exact BK102.out) hb);have n4_ := Aside0.mk (below_step (by repeat (first|(with_reducible first|exact HB.out|apply below_alloc|apply pw_below_drewN|apply below_drew1|refine below_set ?_ GE102.out)|exact HB.out)) hb);clear HO105;clear HO109;clear BK102;clear HB;have HO105 := n0_;have HO109 := n1_;have HO113 := n2_;have BK102 := n3_;have HB := n4_;clear n0_ n1_ n2_ n3_ n4_;clear hb ho35;obtain ⟨Ao36,co36,eo36⟩ := Kd.R_slice HO113.out;subst eo36)|(go_at_call 58;(with_reducible refine (edit_in.calls k 0 16777216 _ _ y111 true _ ?side1 ?side2 A6.out).mono ?_);(case side1 => repeat (first|exact (Kd.R_reads' HO113.out).2.2|(with_reducible refine Kd.C_alloc ?_ _)|(with_reducible refine Kd.C_drewN ?_ _)|(with_reducible refine Kd.C_drew ?_)));(case side2 => exact (Kd.R_reads' HO113.out).2.1);rintro e w' ⟨rfl,⟨nd,rfl⟩⟩;have hcz37_0 : w34.cell? ⟨gb102,0,none⟩ = some (.int .i64 a0_0) := (blk_cell BK102.out 0).trans rfl;have hcz37_1 : w34.cell? ⟨gb102,1,none⟩ = some (.int .i64 a0_1) := (blk_cell BK102.out 1).trans rfl;have hcz37_2 : w34.cell? ⟨gb102,2,none⟩ = some (.int .i64 a0_2) := (blk_cell BK102.out 2).trans rfl;have hcz37_3 : w34.cell? ⟨gb102,3,none⟩ = some (.string a0_3) := (blk_cell BK102.out 3).trans rfl;have hcz37_4 : w34.cell? ⟨gb102,4,none⟩ = some (.string a0_4) := (blk_cell BK102.out 4).trans rfl;have hfz37_0 := blk_frozen BK102.out 0;have hfz37_1 := blk_frozen BK102.out 1;have hfz37_2 := blk_frozen BK102.out 2;have hfz37_3 := blk_frozen BK102.out 3;have hfz37_4 := blk_frozen BK102.out 4))
      go_ret
      exact ⟨by first | rfl|(simp [errW_none,errW_some] <;> rfl)|(simp [*,errW_none,errW_some] <;> rfl),by repeat (first|(with_reducible first|exact HB.out|apply below_alloc|apply pw_below_drewN|apply below_drew1|refine below_set ?_ GE102.out)|exact HB.out)⟩
     ·rw [if_neg c23] at H
      have c23b0 : decide ((a0_3.size : Int) ≤ 13000) = false := decide_eq_false c23
      have c23b1 : decide (a0_3.size ≤ 13000) = false := decide_eq_false (by omega)
      clear c23
      obtain rfl := Option.some.inj H
      simp only [Option.some.injEq, Prod.mk.injEq] at H
      obtain ⟨rfl⟩ := H
      go_enter Try.func59, Try.ntmps59
      go_wp2_with (first|((with_reducible refine gate_dst (N := 1) rfl ?_);(try (refine gate_guard (by rfl) ?_;dsimp only));refine box_event ?hg (N := 1) ?hd (cs := #[.int .i64 a0_0,.int .i64 a0_1,.int .i64 a0_2,.string a0_3,.string a0_4]) (t := 55) ?hr ?_;(case hd => rfl);(case hg => rfl);(case hr => first|(go_simp;done)|(go_simp;rfl));intro gb102 hg w38 hbox hb;have n0_ := Aside0.mk (below_step (by repeat (first|(with_reducible first|exact HB.out|apply below_alloc|apply pw_below_drewN|apply below_drew1)|exact HB.out)) hb);have n1_ := Aside0.mk (hbox);have n2_ := Aside0.mk ((by rw [hg];exact (below_size (by repeat (first|(with_reducible first|exact HB.out|apply below_alloc|apply pw_below_drewN|apply below_drew1)|exact HB.out))) : w.heap.size ≤ gb102));have n3_ := Aside0.mk ((by rw [hg];exact (below_size (by repeat (first|(with_reducible first|exact HB.out|apply below_alloc|apply pw_below_drewN|apply below_drew1)|exact HB.out))) : w.heap.size ≤ gb102));clear HB;have HB := n0_;have BK102 := n1_;have GW102 := n2_;have GE102 := n3_;clear n0_ n1_ n2_ n3_;clear hb hbox hg;have hcz39_0 : w38.cell? ⟨gb102,0,none⟩ = some (.int .i64 a0_0) := (blk_cell BK102.out 0).trans rfl;have hcz39_1 : w38.cell? ⟨gb102,1,none⟩ = some (.int .i64 a0_1) := (blk_cell BK102.out 1).trans rfl;have hcz39_2 : w38.cell? ⟨gb102,2,none⟩ = some (.int .i64 a0_2) := (blk_cell BK102.out 2).trans rfl;have hcz39_3 : w38.cell? ⟨gb102,3,none⟩ = some (.string a0_3) := (blk_cell BK102.out 3).trans rfl;have hcz39_4 : w38.cell? ⟨gb102,4,none⟩ = some (.string a0_4) := (blk_cell BK102.out 4).trans rfl;have hfz39_0 := blk_frozen BK102.out 0;have hfz39_1 := blk_frozen BK102.out 1;have hfz39_2 := blk_frozen BK102.out 2;have hfz39_3 := blk_frozen BK102.out 3;have hfz39_4 := blk_frozen BK102.out 4)|((with_reducible refine gate_dst (N := 5) rfl ?_);(try (refine gate_guard (by rfl) ?_;dsimp only));refine Kd.R_lit (Kd.int .i64) _ 2 ?hg (N := 5) ?hd (xs := ([a0_0] : List Int)) (inner := [.int .i64 a0_0]) (ok := fun _ => True) (okp := fun _ => True) ?hr ?hp (fun _ hk => hk) trivial (Below.refl _ _) (Nat.le_refl _) (by simp) ?_;(case hd => rfl);(case hg => rfl);(case hr => first|(go_simp;done)|(go_simp;rfl));(case hp => exact (Reps.one (show Kd.M (Kd.int .i64) _ _ _ a0_0 [.int .i64 a0_0] from rfl) (Reps.none _ _)));intro v104 w40 ho41 hb hg_ hnew_;clear hg_ hnew_;(first | rw [← Ny103.out] at ho41|(simp only [Int.reduceToNat] at ho41;rw [← Ny103.out] at ho41));have n0_ := Aside0.mk (Kd.R_lower ho41 (below_size (by repeat (first|(with_reducible first|exact HB.out|apply below_alloc|apply pw_below_drewN|apply below_drew1|refine below_set ?_ GE102.out)|exact HB.out))));have n1_ := Aside0.mk (blk_below (g := gb102) (o := .cells #[.int .i64 a0_0,.int .i64 a0_1,.int .i64 a0_2,.string a0_3,.string a0_4] 55 (0,0)) (by (with_reducible repeat (first|refine blk_drewN ?_ _|refine blk_drew ?_|refine blk_alloc ?_ _));exact BK102.out) hb);have n2_ := Aside0.mk (below_step (by repeat (first|(with_reducible first|exact HB.out|apply below_alloc|apply pw_below_drewN|apply below_drew1|refine below_set ?_ GE102.out)|exact HB.out)) hb);clear BK102;clear HB;have HO105 := n0_;have BK102 := n1_;have HB := n2_;clear n0_ n1_ n2_;clear hb ho41;obtain ⟨Ao42,co42,eo42⟩ := Kd.R_slice HO105.out;subst eo42)|((with_reducible refine gate_callee (f := 58) rfl ?_);refine goesL_ (some 6) rfl rfl Try.func58 (by kernel_rfl) rfl #[.int .i64 1,.int .i64 1125899906842624,.slice Ao42 y103.length co42] rfl (by (try simp only [List.map_toArray,List.map_cons,List.map_nil]);first | done | rfl|(simp only [List.length_drop,List.length_take];rfl)) ?_;(with_reducible refine (edit_in.calls k 1 1125899906842624 _ _ y103 true _ ?side1 ?side2 A2.out).mono ?_);(case side1 => repeat (first|exact (Kd.R_reads' HO105.out).2.2|(with_reducible refine Kd.C_alloc ?_ _)|(with_reducible refine Kd.C_drewN ?_ _)|(with_reducible refine Kd.C_drew ?_)));(case side2 => exact (Kd.R_reads' HO105.out).2.1);rintro e w' ⟨rfl,⟨nd,rfl⟩⟩;refine ⟨_,rfl,?_⟩;have hcz43_0 : w40.cell? ⟨gb102,0,none⟩ = some (.int .i64 a0_0) := (blk_cell BK102.out 0).trans rfl;have hcz43_1 : w40.cell? ⟨gb102,1,none⟩ = some (.int .i64 a0_1) := (blk_cell BK102.out 1).trans rfl;have hcz43_2 : w40.cell? ⟨gb102,2,none⟩ = some (.int .i64 a0_2) := (blk_cell BK102.out 2).trans rfl;have hcz43_3 : w40.cell? ⟨gb102,3,none⟩ = some (.string a0_3) := (blk_cell BK102.out 3).trans rfl;have hcz43_4 : w40.cell? ⟨gb102,4,none⟩ = some (.string a0_4) := (blk_cell BK102.out 4).trans rfl;have hfz43_0 := blk_frozen BK102.out 0;have hfz43_1 := blk_frozen BK102.out 1;have hfz43_2 := blk_frozen BK102.out 2;have hfz43_3 := blk_frozen BK102.out 3;have hfz43_4 := blk_frozen BK102.out 4)|((with_reducible refine gate_dst (N := 10) rfl ?_);(try (refine gate_guard (by rfl) ?_;dsimp only));refine Kd.R_lit (Kd.int .i64) _ 2 ?hg (N := 10) ?hd (xs := ([a0_1] : List Int)) (inner := [.int .i64 a0_1]) (ok := fun _ => True) (okp := fun _ => True) ?hr ?hp (fun _ hk => hk) trivial (Below.refl _ _) (Nat.le_refl _) (by simp) ?_;(case hd => rfl);(case hg => rfl);(case hr => first|(go_simp;done)|(go_simp;rfl));(case hp => exact (Reps.one (show Kd.M (Kd.int .i64) _ _ _ a0_1 [.int .i64 a0_1] from rfl) (Reps.none _ _)));intro v108 w44 ho45 hb hg_ hnew_;clear hg_ hnew_;(first | rw [← Ny107.out] at ho45|(simp only [Int.reduceToNat] at ho45;rw [← Ny107.out] at ho45));have n0_ := Aside0.mk (Kd.R_elder' (by (with_reducible repeat (first|apply Kd.R_alloc|apply Kd.R_drewN|apply Kd.R_drew));exact HO105.out) (Kd.R_base ho45) hb);have n1_ := Aside0.mk (Kd.R_lower (Kd.R_new' ho45 (Kd.R_lt (by (with_reducible repeat (first|apply Kd.R_alloc|apply Kd.R_drewN|apply Kd.R_drew));exact HO105.out))) (below_size (by repeat (first|(with_reducible first|exact HB.out|apply below_alloc|apply pw_below_drewN|apply below_drew1|refine below_set ?_ GE102.out)|exact HB.out))));have n2_ := Aside0.mk (blk_below (g := gb102) (o := .cells #[.int .i64 a0_0,.int .i64 a0_1,.int .i64 a0_2,.string a0_3,.string a0_4] 55 (0,0)) (by (with_reducible repeat (first|refine blk_drewN ?_ _|refine blk_drew ?_|refine blk_alloc ?_ _));exact BK102.out) hb);have n3_ := Aside0.mk (below_step (by repeat (first|(with_reducible first|exact HB.out|apply below_alloc|apply pw_below_drewN|apply below_drew1|refine below_set ?_ GE102.out)|exact HB.out)) hb);clear HO105;clear BK102;clear HB;have HO105 := n0_;have HO109 := n1_;have BK102 := n2_;have HB := n3_;clear n0_ n1_ n2_ n3_;clear hb ho45;obtain ⟨Ao46,co46,eo46⟩ := Kd.R_slice HO109.out;subst eo46)|(go_at_call 58;(with_reducible refine (edit_in.calls k 0 4 _ _ y107 true _ ?side1 ?side2 A4.out).mono ?_);(case side1 => repeat (first|exact (Kd.R_reads' HO109.out).2.2|(with_reducible refine Kd.C_alloc ?_ _)|(with_reducible refine Kd.C_drewN ?_ _)|(with_reducible refine Kd.C_drew ?_)));(case side2 => exact (Kd.R_reads' HO109.out).2.1);rintro e w' ⟨rfl,⟨nd,rfl⟩⟩;have hcz47_0 : w44.cell? ⟨gb102,0,none⟩ = some (.int .i64 a0_0) := (blk_cell BK102.out 0).trans rfl;have hcz47_1 : w44.cell? ⟨gb102,1,none⟩ = some (.int .i64 a0_1) := (blk_cell BK102.out 1).trans rfl;have hcz47_2 : w44.cell? ⟨gb102,2,none⟩ = some (.int .i64 a0_2) := (blk_cell BK102.out 2).trans rfl;have hcz47_3 : w44.cell? ⟨gb102,3,none⟩ = some (.string a0_3) := (blk_cell BK102.out 3).trans rfl;have hcz47_4 : w44.cell? ⟨gb102,4,none⟩ = some (.string a0_4) := (blk_cell BK102.out 4).trans rfl;have hfz47_0 := blk_frozen BK102.out 0;have hfz47_1 := blk_frozen BK102.out 1;have hfz47_2 := blk_frozen BK102.out 2;have hfz47_3 := blk_frozen BK102.out 3;have hfz47_4 := blk_frozen BK102.out 4)|((with_reducible refine gate_dst (N := 16) rfl ?_);(try (refine gate_guard (by rfl) ?_;dsimp only));refine Kd.R_lit (Kd.int .i64) _ 2 ?hg (N := 16) ?hd (xs := ([a0_2] : List Int)) (inner := [.int .i64 a0_2]) (ok := fun _ => True) (okp := fun _ => True) ?hr ?hp (fun _ hk => hk) trivial (Below.refl _ _) (Nat.le_refl _) (by simp) ?_;(case hd => rfl);(case hg => rfl);(case hr => first|(go_simp;done)|(go_simp;rfl));(case hp => exact (Reps.one (show Kd.M (Kd.int .i64) _ _ _ a0_2 [.int .i64 a0_2] from rfl) (Reps.none _ _)));intro v112 w48 ho49 hb hg_ hnew_;clear hg_ hnew_;(first | rw [← Ny111.out] at ho49|(simp only [Int.reduceToNat] at ho49;rw [← Ny111.out] at ho49));have n0_ := Aside0.mk (Kd.R_elder' (by (with_reducible repeat (first|apply Kd.R_alloc|apply Kd.R_drewN|apply Kd.R_drew));exact HO105.out) (Kd.R_base ho49) hb);have n1_ := Aside0.mk (Kd.R_elder' (by (with_reducible repeat (first|apply Kd.R_alloc|apply Kd.R_drewN|apply Kd.R_drew));exact HO109.out) (Kd.R_base ho49) hb);have n2_ := Aside0.mk (Kd.R_lower (Kd.R_new' (Kd.R_new' ho49 (Kd.R_lt (by (with_reducible repeat (first|apply Kd.R_alloc|apply Kd.R_drewN|apply Kd.R_drew));exact HO105.out))) (Kd.R_lt (by (with_reducible repeat (first|apply Kd.R_alloc|apply Kd.R_drewN|apply Kd.R_drew));exact HO109.out))) (below_size (by repeat (first|(with_reducible first|exact HB.out|apply below_alloc|apply pw_below_drewN|apply below_drew1|refine below_set ?_ GE102.out)|exact HB.out))));have n3_ := Aside0.mk (blk_below (g := gb102) (o := .cells #[.int .i64 a0_0,.int .i64 a0_1,.int .i64 a0_2,.string a0_3,.string a0_4] 55 (0,0)) (by (with_reducible repeat (first|refine blk_drewN ?_ _|refine blk_drew ?_|refine blk_alloc ?_ _));exact BK102.out) hb);have n4_ := Aside0.mk (below_step (by repeat (first|(with_reducible first|exact HB.out|apply below_alloc|apply pw_below_drewN|apply below_drew1|refine below_set ?_ GE102.out)|exact HB.out)) hb);clear HO105;clear HO109;clear BK102;clear HB;have HO105 := n0_;have HO109 := n1_;have HO113 := n2_;have BK102 := n3_;have HB := n4_;clear n0_ n1_ n2_ n3_ n4_;clear hb ho49;obtain ⟨Ao50,co50,eo50⟩ := Kd.R_slice HO113.out;subst eo50)|(go_at_call 58;(with_reducible refine (edit_in.calls k 0 16777216 _ _ y111 true _ ?side1 ?side2 A6.out).mono ?_);(case side1 => repeat (first|exact (Kd.R_reads' HO113.out).2.2|(with_reducible refine Kd.C_alloc ?_ _)|(with_reducible refine Kd.C_drewN ?_ _)|(with_reducible refine Kd.C_drew ?_)));(case side2 => exact (Kd.R_reads' HO113.out).2.1);rintro e w' ⟨rfl,⟨nd,rfl⟩⟩;have hcz51_0 : w48.cell? ⟨gb102,0,none⟩ = some (.int .i64 a0_0) := (blk_cell BK102.out 0).trans rfl;have hcz51_1 : w48.cell? ⟨gb102,1,none⟩ = some (.int .i64 a0_1) := (blk_cell BK102.out 1).trans rfl;have hcz51_2 : w48.cell? ⟨gb102,2,none⟩ = some (.int .i64 a0_2) := (blk_cell BK102.out 2).trans rfl;have hcz51_3 : w48.cell? ⟨gb102,3,none⟩ = some (.string a0_3) := (blk_cell BK102.out 3).trans rfl;have hcz51_4 : w48.cell? ⟨gb102,4,none⟩ = some (.string a0_4) := (blk_cell BK102.out 4).trans rfl;have hfz51_0 := blk_frozen BK102.out 0;have hfz51_1 := blk_frozen BK102.out 1;have hfz51_2 := blk_frozen BK102.out 2;have hfz51_3 := blk_frozen BK102.out 3;have hfz51_4 := blk_frozen BK102.out 4))
      go_ret
      exact ⟨by first | rfl|(simp [errW_none,errW_some] <;> rfl)|(simp [*,errW_none,errW_some] <;> rfl),by repeat (first|(with_reducible first|exact HB.out|apply below_alloc|apply pw_below_drewN|apply below_drew1|refine below_set ?_ GE102.out)|exact HB.out)⟩
   ·replace c7 := Bool.eq_false_iff.mpr c7
    subst c7
    have H1 : (some false) = some r := by rw [if_neg (show ¬ (false = true) by decide)] at H; exact H
    clear H
    have H := H1
    clear H1
    obtain rfl := Option.some.inj H
    simp only [Option.some.injEq, Prod.mk.injEq] at H
    obtain ⟨rfl⟩ := H
    go_enter Try.func59, Try.ntmps59
    go_wp2_with (first|((with_reducible refine gate_dst (N := 1) rfl ?_);(try (refine gate_guard (by rfl) ?_;dsimp only));refine box_event ?hg (N := 1) ?hd (cs := #[.int .i64 a0_0,.int .i64 a0_1,.int .i64 a0_2,.string a0_3,.string a0_4]) (t := 55) ?hr ?_;(case hd => rfl);(case hg => rfl);(case hr => first|(go_simp;done)|(go_simp;rfl));intro gb102 hg w52 hbox hb;have n0_ := Aside0.mk (below_step (by repeat (first|(with_reducible first|exact HB.out|apply below_alloc|apply pw_below_drewN|apply below_drew1)|exact HB.out)) hb);have n1_ := Aside0.mk (hbox);have n2_ := Aside0.mk ((by rw [hg];exact (below_size (by repeat (first|(with_reducible first|exact HB.out|apply below_alloc|apply pw_below_drewN|apply below_drew1)|exact HB.out))) : w.heap.size ≤ gb102));have n3_ := Aside0.mk ((by rw [hg];exact (below_size (by repeat (first|(with_reducible first|exact HB.out|apply below_alloc|apply pw_below_drewN|apply below_drew1)|exact HB.out))) : w.heap.size ≤ gb102));clear HB;have HB := n0_;have BK102 := n1_;have GW102 := n2_;have GE102 := n3_;clear n0_ n1_ n2_ n3_;clear hb hbox hg;have hcz53_0 : w52.cell? ⟨gb102,0,none⟩ = some (.int .i64 a0_0) := (blk_cell BK102.out 0).trans rfl;have hcz53_1 : w52.cell? ⟨gb102,1,none⟩ = some (.int .i64 a0_1) := (blk_cell BK102.out 1).trans rfl;have hcz53_2 : w52.cell? ⟨gb102,2,none⟩ = some (.int .i64 a0_2) := (blk_cell BK102.out 2).trans rfl;have hcz53_3 : w52.cell? ⟨gb102,3,none⟩ = some (.string a0_3) := (blk_cell BK102.out 3).trans rfl;have hcz53_4 : w52.cell? ⟨gb102,4,none⟩ = some (.string a0_4) := (blk_cell BK102.out 4).trans rfl;have hfz53_0 := blk_frozen BK102.out 0;have hfz53_1 := blk_frozen BK102.out 1;have hfz53_2 := blk_frozen BK102.out 2;have hfz53_3 := blk_frozen BK102.out 3;have hfz53_4 := blk_frozen BK102.out 4)|((with_reducible refine gate_dst (N := 5) rfl ?_);(try (refine gate_guard (by rfl) ?_;dsimp only));refine Kd.R_lit (Kd.int .i64) _ 2 ?hg (N := 5) ?hd (xs := ([a0_0] : List Int)) (inner := [.int .i64 a0_0]) (ok := fun _ => True) (okp := fun _ => True) ?hr ?hp (fun _ hk => hk) trivial (Below.refl _ _) (Nat.le_refl _) (by simp) ?_;(case hd => rfl);(case hg => rfl);(case hr => first|(go_simp;done)|(go_simp;rfl));(case hp => exact (Reps.one (show Kd.M (Kd.int .i64) _ _ _ a0_0 [.int .i64 a0_0] from rfl) (Reps.none _ _)));intro v104 w54 ho55 hb hg_ hnew_;clear hg_ hnew_;(first | rw [← Ny103.out] at ho55|(simp only [Int.reduceToNat] at ho55;rw [← Ny103.out] at ho55));have n0_ := Aside0.mk (Kd.R_lower ho55 (below_size (by repeat (first|(with_reducible first|exact HB.out|apply below_alloc|apply pw_below_drewN|apply below_drew1|refine below_set ?_ GE102.out)|exact HB.out))));have n1_ := Aside0.mk (blk_below (g := gb102) (o := .cells #[.int .i64 a0_0,.int .i64 a0_1,.int .i64 a0_2,.string a0_3,.string a0_4] 55 (0,0)) (by (with_reducible repeat (first|refine blk_drewN ?_ _|refine blk_drew ?_|refine blk_alloc ?_ _));exact BK102.out) hb);have n2_ := Aside0.mk (below_step (by repeat (first|(with_reducible first|exact HB.out|apply below_alloc|apply pw_below_drewN|apply below_drew1|refine below_set ?_ GE102.out)|exact HB.out)) hb);clear BK102;clear HB;have HO105 := n0_;have BK102 := n1_;have HB := n2_;clear n0_ n1_ n2_;clear hb ho55;obtain ⟨Ao56,co56,eo56⟩ := Kd.R_slice HO105.out;subst eo56)|((with_reducible refine gate_callee (f := 58) rfl ?_);refine goesL_ (some 6) rfl rfl Try.func58 (by kernel_rfl) rfl #[.int .i64 1,.int .i64 1125899906842624,.slice Ao56 y103.length co56] rfl (by (try simp only [List.map_toArray,List.map_cons,List.map_nil]);first | done | rfl|(simp only [List.length_drop,List.length_take];rfl)) ?_;(with_reducible refine (edit_in.calls k 1 1125899906842624 _ _ y103 true _ ?side1 ?side2 A2.out).mono ?_);(case side1 => repeat (first|exact (Kd.R_reads' HO105.out).2.2|(with_reducible refine Kd.C_alloc ?_ _)|(with_reducible refine Kd.C_drewN ?_ _)|(with_reducible refine Kd.C_drew ?_)));(case side2 => exact (Kd.R_reads' HO105.out).2.1);rintro e w' ⟨rfl,⟨nd,rfl⟩⟩;refine ⟨_,rfl,?_⟩;have hcz57_0 : w54.cell? ⟨gb102,0,none⟩ = some (.int .i64 a0_0) := (blk_cell BK102.out 0).trans rfl;have hcz57_1 : w54.cell? ⟨gb102,1,none⟩ = some (.int .i64 a0_1) := (blk_cell BK102.out 1).trans rfl;have hcz57_2 : w54.cell? ⟨gb102,2,none⟩ = some (.int .i64 a0_2) := (blk_cell BK102.out 2).trans rfl;have hcz57_3 : w54.cell? ⟨gb102,3,none⟩ = some (.string a0_3) := (blk_cell BK102.out 3).trans rfl;have hcz57_4 : w54.cell? ⟨gb102,4,none⟩ = some (.string a0_4) := (blk_cell BK102.out 4).trans rfl;have hfz57_0 := blk_frozen BK102.out 0;have hfz57_1 := blk_frozen BK102.out 1;have hfz57_2 := blk_frozen BK102.out 2;have hfz57_3 := blk_frozen BK102.out 3;have hfz57_4 := blk_frozen BK102.out 4)|((with_reducible refine gate_dst (N := 10) rfl ?_);(try (refine gate_guard (by rfl) ?_;dsimp only));refine Kd.R_lit (Kd.int .i64) _ 2 ?hg (N := 10) ?hd (xs := ([a0_1] : List Int)) (inner := [.int .i64 a0_1]) (ok := fun _ => True) (okp := fun _ => True) ?hr ?hp (fun _ hk => hk) trivial (Below.refl _ _) (Nat.le_refl _) (by simp) ?_;(case hd => rfl);(case hg => rfl);(case hr => first|(go_simp;done)|(go_simp;rfl));(case hp => exact (Reps.one (show Kd.M (Kd.int .i64) _ _ _ a0_1 [.int .i64 a0_1] from rfl) (Reps.none _ _)));intro v108 w58 ho59 hb hg_ hnew_;clear hg_ hnew_;(first | rw [← Ny107.out] at ho59|(simp only [Int.reduceToNat] at ho59;rw [← Ny107.out] at ho59));have n0_ := Aside0.mk (Kd.R_elder' (by (with_reducible repeat (first|apply Kd.R_alloc|apply Kd.R_drewN|apply Kd.R_drew));exact HO105.out) (Kd.R_base ho59) hb);have n1_ := Aside0.mk (Kd.R_lower (Kd.R_new' ho59 (Kd.R_lt (by (with_reducible repeat (first|apply Kd.R_alloc|apply Kd.R_drewN|apply Kd.R_drew));exact HO105.out))) (below_size (by repeat (first|(with_reducible first|exact HB.out|apply below_alloc|apply pw_below_drewN|apply below_drew1|refine below_set ?_ GE102.out)|exact HB.out))));have n2_ := Aside0.mk (blk_below (g := gb102) (o := .cells #[.int .i64 a0_0,.int .i64 a0_1,.int .i64 a0_2,.string a0_3,.string a0_4] 55 (0,0)) (by (with_reducible repeat (first|refine blk_drewN ?_ _|refine blk_drew ?_|refine blk_alloc ?_ _));exact BK102.out) hb);have n3_ := Aside0.mk (below_step (by repeat (first|(with_reducible first|exact HB.out|apply below_alloc|apply pw_below_drewN|apply below_drew1|refine below_set ?_ GE102.out)|exact HB.out)) hb);clear HO105;clear BK102;clear HB;have HO105 := n0_;have HO109 := n1_;have BK102 := n2_;have HB := n3_;clear n0_ n1_ n2_ n3_;clear hb ho59;obtain ⟨Ao60,co60,eo60⟩ := Kd.R_slice HO109.out;subst eo60)|(go_at_call 58;(with_reducible refine (edit_in.calls k 0 4 _ _ y107 true _ ?side1 ?side2 A4.out).mono ?_);(case side1 => repeat (first|exact (Kd.R_reads' HO109.out).2.2|(with_reducible refine Kd.C_alloc ?_ _)|(with_reducible refine Kd.C_drewN ?_ _)|(with_reducible refine Kd.C_drew ?_)));(case side2 => exact (Kd.R_reads' HO109.out).2.1);rintro e w' ⟨rfl,⟨nd,rfl⟩⟩;have hcz61_0 : w58.cell? ⟨gb102,0,none⟩ = some (.int .i64 a0_0) := (blk_cell BK102.out 0).trans rfl;have hcz61_1 : w58.cell? ⟨gb102,1,none⟩ = some (.int .i64 a0_1) := (blk_cell BK102.out 1).trans rfl;have hcz61_2 : w58.cell? ⟨gb102,2,none⟩ = some (.int .i64 a0_2) := (blk_cell BK102.out 2).trans rfl;have hcz61_3 : w58.cell? ⟨gb102,3,none⟩ = some (.string a0_3) := (blk_cell BK102.out 3).trans rfl;have hcz61_4 : w58.cell? ⟨gb102,4,none⟩ = some (.string a0_4) := (blk_cell BK102.out 4).trans rfl;have hfz61_0 := blk_frozen BK102.out 0;have hfz61_1 := blk_frozen BK102.out 1;have hfz61_2 := blk_frozen BK102.out 2;have hfz61_3 := blk_frozen BK102.out 3;have hfz61_4 := blk_frozen BK102.out 4)|((with_reducible refine gate_dst (N := 16) rfl ?_);(try (refine gate_guard (by rfl) ?_;dsimp only));refine Kd.R_lit (Kd.int .i64) _ 2 ?hg (N := 16) ?hd (xs := ([a0_2] : List Int)) (inner := [.int .i64 a0_2]) (ok := fun _ => True) (okp := fun _ => True) ?hr ?hp (fun _ hk => hk) trivial (Below.refl _ _) (Nat.le_refl _) (by simp) ?_;(case hd => rfl);(case hg => rfl);(case hr => first|(go_simp;done)|(go_simp;rfl));(case hp => exact (Reps.one (show Kd.M (Kd.int .i64) _ _ _ a0_2 [.int .i64 a0_2] from rfl) (Reps.none _ _)));intro v112 w62 ho63 hb hg_ hnew_;clear hg_ hnew_;(first | rw [← Ny111.out] at ho63|(simp only [Int.reduceToNat] at ho63;rw [← Ny111.out] at ho63));have n0_ := Aside0.mk (Kd.R_elder' (by (with_reducible repeat (first|apply Kd.R_alloc|apply Kd.R_drewN|apply Kd.R_drew));exact HO105.out) (Kd.R_base ho63) hb);have n1_ := Aside0.mk (Kd.R_elder' (by (with_reducible repeat (first|apply Kd.R_alloc|apply Kd.R_drewN|apply Kd.R_drew));exact HO109.out) (Kd.R_base ho63) hb);have n2_ := Aside0.mk (Kd.R_lower (Kd.R_new' (Kd.R_new' ho63 (Kd.R_lt (by (with_reducible repeat (first|apply Kd.R_alloc|apply Kd.R_drewN|apply Kd.R_drew));exact HO105.out))) (Kd.R_lt (by (with_reducible repeat (first|apply Kd.R_alloc|apply Kd.R_drewN|apply Kd.R_drew));exact HO109.out))) (below_size (by repeat (first|(with_reducible first|exact HB.out|apply below_alloc|apply pw_below_drewN|apply below_drew1|refine below_set ?_ GE102.out)|exact HB.out))));have n3_ := Aside0.mk (blk_below (g := gb102) (o := .cells #[.int .i64 a0_0,.int .i64 a0_1,.int .i64 a0_2,.string a0_3,.string a0_4] 55 (0,0)) (by (with_reducible repeat (first|refine blk_drewN ?_ _|refine blk_drew ?_|refine blk_alloc ?_ _));exact BK102.out) hb);have n4_ := Aside0.mk (below_step (by repeat (first|(with_reducible first|exact HB.out|apply below_alloc|apply pw_below_drewN|apply below_drew1|refine below_set ?_ GE102.out)|exact HB.out)) hb);clear HO105;clear HO109;clear BK102;clear HB;have HO105 := n0_;have HO109 := n1_;have HO113 := n2_;have BK102 := n3_;have HB := n4_;clear n0_ n1_ n2_ n3_ n4_;clear hb ho63;obtain ⟨Ao64,co64,eo64⟩ := Kd.R_slice HO113.out;subst eo64)|(go_at_call 58;(with_reducible refine (edit_in.calls k 0 16777216 _ _ y111 false _ ?side1 ?side2 A6.out).mono ?_);(case side1 => repeat (first|exact (Kd.R_reads' HO113.out).2.2|(with_reducible refine Kd.C_alloc ?_ _)|(with_reducible refine Kd.C_drewN ?_ _)|(with_reducible refine Kd.C_drew ?_)));(case side2 => exact (Kd.R_reads' HO113.out).2.1);rintro e w' ⟨rfl,⟨nd,rfl⟩⟩))
    go_ret
    exact ⟨by first | rfl|(simp [errW_none,errW_some] <;> rfl)|(simp [*,errW_none,errW_some] <;> rfl),by repeat (first|(with_reducible first|exact HB.out|apply below_alloc|apply pw_below_drewN|apply below_drew1|refine below_set ?_ GE102.out)|exact HB.out)⟩
  ·replace c5 := Bool.eq_false_iff.mpr c5
   subst c5
   have H1 : (some false) = some r := by rw [if_neg (show ¬ (false = true) by decide)] at H; exact H
   clear H
   have H := H1
   clear H1
   obtain rfl := Option.some.inj H
   simp only [Option.some.injEq, Prod.mk.injEq] at H
   obtain ⟨rfl⟩ := H
   go_enter Try.func59, Try.ntmps59
   go_wp2_with (first|((with_reducible refine gate_dst (N := 1) rfl ?_);(try (refine gate_guard (by rfl) ?_;dsimp only));refine box_event ?hg (N := 1) ?hd (cs := #[.int .i64 a0_0,.int .i64 a0_1,.int .i64 a0_2,.string a0_3,.string a0_4]) (t := 55) ?hr ?_;(case hd => rfl);(case hg => rfl);(case hr => first|(go_simp;done)|(go_simp;rfl));intro gb102 hg w65 hbox hb;have n0_ := Aside0.mk (below_step (by repeat (first|(with_reducible first|exact HB.out|apply below_alloc|apply pw_below_drewN|apply below_drew1)|exact HB.out)) hb);have n1_ := Aside0.mk (hbox);have n2_ := Aside0.mk ((by rw [hg];exact (below_size (by repeat (first|(with_reducible first|exact HB.out|apply below_alloc|apply pw_below_drewN|apply below_drew1)|exact HB.out))) : w.heap.size ≤ gb102));have n3_ := Aside0.mk ((by rw [hg];exact (below_size (by repeat (first|(with_reducible first|exact HB.out|apply below_alloc|apply pw_below_drewN|apply below_drew1)|exact HB.out))) : w.heap.size ≤ gb102));clear HB;have HB := n0_;have BK102 := n1_;have GW102 := n2_;have GE102 := n3_;clear n0_ n1_ n2_ n3_;clear hb hbox hg;have hcz66_0 : w65.cell? ⟨gb102,0,none⟩ = some (.int .i64 a0_0) := (blk_cell BK102.out 0).trans rfl;have hcz66_1 : w65.cell? ⟨gb102,1,none⟩ = some (.int .i64 a0_1) := (blk_cell BK102.out 1).trans rfl;have hcz66_2 : w65.cell? ⟨gb102,2,none⟩ = some (.int .i64 a0_2) := (blk_cell BK102.out 2).trans rfl;have hcz66_3 : w65.cell? ⟨gb102,3,none⟩ = some (.string a0_3) := (blk_cell BK102.out 3).trans rfl;have hcz66_4 : w65.cell? ⟨gb102,4,none⟩ = some (.string a0_4) := (blk_cell BK102.out 4).trans rfl;have hfz66_0 := blk_frozen BK102.out 0;have hfz66_1 := blk_frozen BK102.out 1;have hfz66_2 := blk_frozen BK102.out 2;have hfz66_3 := blk_frozen BK102.out 3;have hfz66_4 := blk_frozen BK102.out 4)|((with_reducible refine gate_dst (N := 5) rfl ?_);(try (refine gate_guard (by rfl) ?_;dsimp only));refine Kd.R_lit (Kd.int .i64) _ 2 ?hg (N := 5) ?hd (xs := ([a0_0] : List Int)) (inner := [.int .i64 a0_0]) (ok := fun _ => True) (okp := fun _ => True) ?hr ?hp (fun _ hk => hk) trivial (Below.refl _ _) (Nat.le_refl _) (by simp) ?_;(case hd => rfl);(case hg => rfl);(case hr => first|(go_simp;done)|(go_simp;rfl));(case hp => exact (Reps.one (show Kd.M (Kd.int .i64) _ _ _ a0_0 [.int .i64 a0_0] from rfl) (Reps.none _ _)));intro v104 w67 ho68 hb hg_ hnew_;clear hg_ hnew_;(first | rw [← Ny103.out] at ho68|(simp only [Int.reduceToNat] at ho68;rw [← Ny103.out] at ho68));have n0_ := Aside0.mk (Kd.R_lower ho68 (below_size (by repeat (first|(with_reducible first|exact HB.out|apply below_alloc|apply pw_below_drewN|apply below_drew1|refine below_set ?_ GE102.out)|exact HB.out))));have n1_ := Aside0.mk (blk_below (g := gb102) (o := .cells #[.int .i64 a0_0,.int .i64 a0_1,.int .i64 a0_2,.string a0_3,.string a0_4] 55 (0,0)) (by (with_reducible repeat (first|refine blk_drewN ?_ _|refine blk_drew ?_|refine blk_alloc ?_ _));exact BK102.out) hb);have n2_ := Aside0.mk (below_step (by repeat (first|(with_reducible first|exact HB.out|apply below_alloc|apply pw_below_drewN|apply below_drew1|refine below_set ?_ GE102.out)|exact HB.out)) hb);clear BK102;clear HB;have HO105 := n0_;have BK102 := n1_;have HB := n2_;clear n0_ n1_ n2_;clear hb ho68;obtain ⟨Ao69,co69,eo69⟩ := Kd.R_slice HO105.out;subst eo69)|((with_reducible refine gate_callee (f := 58) rfl ?_);refine goesL_ (some 6) rfl rfl Try.func58 (by kernel_rfl) rfl #[.int .i64 1,.int .i64 1125899906842624,.slice Ao69 y103.length co69] rfl (by (try simp only [List.map_toArray,List.map_cons,List.map_nil]);first | done | rfl|(simp only [List.length_drop,List.length_take];rfl)) ?_;(with_reducible refine (edit_in.calls k 1 1125899906842624 _ _ y103 true _ ?side1 ?side2 A2.out).mono ?_);(case side1 => repeat (first|exact (Kd.R_reads' HO105.out).2.2|(with_reducible refine Kd.C_alloc ?_ _)|(with_reducible refine Kd.C_drewN ?_ _)|(with_reducible refine Kd.C_drew ?_)));(case side2 => exact (Kd.R_reads' HO105.out).2.1);rintro e w' ⟨rfl,⟨nd,rfl⟩⟩;refine ⟨_,rfl,?_⟩;have hcz70_0 : w67.cell? ⟨gb102,0,none⟩ = some (.int .i64 a0_0) := (blk_cell BK102.out 0).trans rfl;have hcz70_1 : w67.cell? ⟨gb102,1,none⟩ = some (.int .i64 a0_1) := (blk_cell BK102.out 1).trans rfl;have hcz70_2 : w67.cell? ⟨gb102,2,none⟩ = some (.int .i64 a0_2) := (blk_cell BK102.out 2).trans rfl;have hcz70_3 : w67.cell? ⟨gb102,3,none⟩ = some (.string a0_3) := (blk_cell BK102.out 3).trans rfl;have hcz70_4 : w67.cell? ⟨gb102,4,none⟩ = some (.string a0_4) := (blk_cell BK102.out 4).trans rfl;have hfz70_0 := blk_frozen BK102.out 0;have hfz70_1 := blk_frozen BK102.out 1;have hfz70_2 := blk_frozen BK102.out 2;have hfz70_3 := blk_frozen BK102.out 3;have hfz70_4 := blk_frozen BK102.out 4)|((with_reducible refine gate_dst (N := 10) rfl ?_);(try (refine gate_guard (by rfl) ?_;dsimp only));refine Kd.R_lit (Kd.int .i64) _ 2 ?hg (N := 10) ?hd (xs := ([a0_1] : List Int)) (inner := [.int .i64 a0_1]) (ok := fun _ => True) (okp := fun _ => True) ?hr ?hp (fun _ hk => hk) trivial (Below.refl _ _) (Nat.le_refl _) (by simp) ?_;(case hd => rfl);(case hg => rfl);(case hr => first|(go_simp;done)|(go_simp;rfl));(case hp => exact (Reps.one (show Kd.M (Kd.int .i64) _ _ _ a0_1 [.int .i64 a0_1] from rfl) (Reps.none _ _)));intro v108 w71 ho72 hb hg_ hnew_;clear hg_ hnew_;(first | rw [← Ny107.out] at ho72|(simp only [Int.reduceToNat] at ho72;rw [← Ny107.out] at ho72));have n0_ := Aside0.mk (Kd.R_elder' (by (with_reducible repeat (first|apply Kd.R_alloc|apply Kd.R_drewN|apply Kd.R_drew));exact HO105.out) (Kd.R_base ho72) hb);have n1_ := Aside0.mk (Kd.R_lower (Kd.R_new' ho72 (Kd.R_lt (by (with_reducible repeat (first|apply Kd.R_alloc|apply Kd.R_drewN|apply Kd.R_drew));exact HO105.out))) (below_size (by repeat (first|(with_reducible first|exact HB.out|apply below_alloc|apply pw_below_drewN|apply below_drew1|refine below_set ?_ GE102.out)|exact HB.out))));have n2_ := Aside0.mk (blk_below (g := gb102) (o := .cells #[.int .i64 a0_0,.int .i64 a0_1,.int .i64 a0_2,.string a0_3,.string a0_4] 55 (0,0)) (by (with_reducible repeat (first|refine blk_drewN ?_ _|refine blk_drew ?_|refine blk_alloc ?_ _));exact BK102.out) hb);have n3_ := Aside0.mk (below_step (by repeat (first|(with_reducible first|exact HB.out|apply below_alloc|apply pw_below_drewN|apply below_drew1|refine below_set ?_ GE102.out)|exact HB.out)) hb);clear HO105;clear BK102;clear HB;have HO105 := n0_;have HO109 := n1_;have BK102 := n2_;have HB := n3_;clear n0_ n1_ n2_ n3_;clear hb ho72;obtain ⟨Ao73,co73,eo73⟩ := Kd.R_slice HO109.out;subst eo73)|(go_at_call 58;(with_reducible refine (edit_in.calls k 0 4 _ _ y107 false _ ?side1 ?side2 A4.out).mono ?_);(case side1 => repeat (first|exact (Kd.R_reads' HO109.out).2.2|(with_reducible refine Kd.C_alloc ?_ _)|(with_reducible refine Kd.C_drewN ?_ _)|(with_reducible refine Kd.C_drew ?_)));(case side2 => exact (Kd.R_reads' HO109.out).2.1);rintro e w' ⟨rfl,⟨nd,rfl⟩⟩))
   go_ret
   exact ⟨by first | rfl|(simp [errW_none,errW_some] <;> rfl)|(simp [*,errW_none,errW_some] <;> rfl),by repeat (first|(with_reducible first|exact HB.out|apply below_alloc|apply pw_below_drewN|apply below_drew1|refine below_set ?_ GE102.out)|exact HB.out)⟩
 ·replace c3 := Bool.eq_false_iff.mpr c3
  subst c3
  have H1 : (some false) = some r := by rw [if_neg (show ¬ (false = true) by decide)] at H; exact H
  clear H
  have H := H1
  clear H1
  obtain rfl := Option.some.inj H
  simp only [Option.some.injEq, Prod.mk.injEq] at H
  obtain ⟨rfl⟩ := H
  go_enter Try.func59, Try.ntmps59
  go_wp2_with (first|((with_reducible refine gate_dst (N := 1) rfl ?_);(try (refine gate_guard (by rfl) ?_;dsimp only));refine box_event ?hg (N := 1) ?hd (cs := #[.int .i64 a0_0,.int .i64 a0_1,.int .i64 a0_2,.string a0_3,.string a0_4]) (t := 55) ?hr ?_;(case hd => rfl);(case hg => rfl);(case hr => first|(go_simp;done)|(go_simp;rfl));intro gb102 hg w74 hbox hb;have n0_ := Aside0.mk (below_step (by repeat (first|(with_reducible first|exact HB.out|apply below_alloc|apply pw_below_drewN|apply below_drew1)|exact HB.out)) hb);have n1_ := Aside0.mk (hbox);have n2_ := Aside0.mk ((by rw [hg];exact (below_size (by repeat (first|(with_reducible first|exact HB.out|apply below_alloc|apply pw_below_drewN|apply below_drew1)|exact HB.out))) : w.heap.size ≤ gb102));have n3_ := Aside0.mk ((by rw [hg];exact (below_size (by repeat (first|(with_reducible first|exact HB.out|apply below_alloc|apply pw_below_drewN|apply below_drew1)|exact HB.out))) : w.heap.size ≤ gb102));clear HB;have HB := n0_;have BK102 := n1_;have GW102 := n2_;have GE102 := n3_;clear n0_ n1_ n2_ n3_;clear hb hbox hg;have hcz75_0 : w74.cell? ⟨gb102,0,none⟩ = some (.int .i64 a0_0) := (blk_cell BK102.out 0).trans rfl;have hcz75_1 : w74.cell? ⟨gb102,1,none⟩ = some (.int .i64 a0_1) := (blk_cell BK102.out 1).trans rfl;have hcz75_2 : w74.cell? ⟨gb102,2,none⟩ = some (.int .i64 a0_2) := (blk_cell BK102.out 2).trans rfl;have hcz75_3 : w74.cell? ⟨gb102,3,none⟩ = some (.string a0_3) := (blk_cell BK102.out 3).trans rfl;have hcz75_4 : w74.cell? ⟨gb102,4,none⟩ = some (.string a0_4) := (blk_cell BK102.out 4).trans rfl;have hfz75_0 := blk_frozen BK102.out 0;have hfz75_1 := blk_frozen BK102.out 1;have hfz75_2 := blk_frozen BK102.out 2;have hfz75_3 := blk_frozen BK102.out 3;have hfz75_4 := blk_frozen BK102.out 4)|((with_reducible refine gate_dst (N := 5) rfl ?_);(try (refine gate_guard (by rfl) ?_;dsimp only));refine Kd.R_lit (Kd.int .i64) _ 2 ?hg (N := 5) ?hd (xs := ([a0_0] : List Int)) (inner := [.int .i64 a0_0]) (ok := fun _ => True) (okp := fun _ => True) ?hr ?hp (fun _ hk => hk) trivial (Below.refl _ _) (Nat.le_refl _) (by simp) ?_;(case hd => rfl);(case hg => rfl);(case hr => first|(go_simp;done)|(go_simp;rfl));(case hp => exact (Reps.one (show Kd.M (Kd.int .i64) _ _ _ a0_0 [.int .i64 a0_0] from rfl) (Reps.none _ _)));intro v104 w76 ho77 hb hg_ hnew_;clear hg_ hnew_;(first | rw [← Ny103.out] at ho77|(simp only [Int.reduceToNat] at ho77;rw [← Ny103.out] at ho77));have n0_ := Aside0.mk (Kd.R_lower ho77 (below_size (by repeat (first|(with_reducible first|exact HB.out|apply below_alloc|apply pw_below_drewN|apply below_drew1|refine below_set ?_ GE102.out)|exact HB.out))));have n1_ := Aside0.mk (blk_below (g := gb102) (o := .cells #[.int .i64 a0_0,.int .i64 a0_1,.int .i64 a0_2,.string a0_3,.string a0_4] 55 (0,0)) (by (with_reducible repeat (first|refine blk_drewN ?_ _|refine blk_drew ?_|refine blk_alloc ?_ _));exact BK102.out) hb);have n2_ := Aside0.mk (below_step (by repeat (first|(with_reducible first|exact HB.out|apply below_alloc|apply pw_below_drewN|apply below_drew1|refine below_set ?_ GE102.out)|exact HB.out)) hb);clear BK102;clear HB;have HO105 := n0_;have BK102 := n1_;have HB := n2_;clear n0_ n1_ n2_;clear hb ho77;obtain ⟨Ao78,co78,eo78⟩ := Kd.R_slice HO105.out;subst eo78)|((with_reducible refine gate_callee (f := 58) rfl ?_);refine goesL_ (some 6) rfl rfl Try.func58 (by kernel_rfl) rfl #[.int .i64 1,.int .i64 1125899906842624,.slice Ao78 y103.length co78] rfl (by (try simp only [List.map_toArray,List.map_cons,List.map_nil]);first | done | rfl|(simp only [List.length_drop,List.length_take];rfl)) ?_;(with_reducible refine (edit_in.calls k 1 1125899906842624 _ _ y103 false _ ?side1 ?side2 A2.out).mono ?_);(case side1 => repeat (first|exact (Kd.R_reads' HO105.out).2.2|(with_reducible refine Kd.C_alloc ?_ _)|(with_reducible refine Kd.C_drewN ?_ _)|(with_reducible refine Kd.C_drew ?_)));(case side2 => exact (Kd.R_reads' HO105.out).2.1);rintro e w' ⟨rfl,⟨nd,rfl⟩⟩;refine ⟨_,rfl,?_⟩))
  go_ret
  exact ⟨by first | rfl|(simp [errW_none,errW_some] <;> rfl)|(simp [*,errW_none,errW_some] <;> rfl),by repeat (first|(with_reducible first|exact HB.out|apply below_alloc|apply pw_below_drewN|apply below_drew1|refine below_set ?_ GE102.out)|exact HB.out)⟩

/-! ### edit_Check: function 27 -/
mutual
def edit_Check.j0 : Nat → Bool → Int → Int → Int → List (S55) → List Int → Option (Int)
 | 0, _, _, _, _, _, _ => none
 | k + 1, x3, x116000, x116001, x116002, x116003, x116004 => edit_Check.l0 k x3 x116003 (x116003.length : Int) 0
def edit_Check.l0 : Nat → Bool → List (S55) → Int → Int → Option (Int)
 | 0, _, _, _, _ => none
 | k + 1,x3,x32,x33,x34 => if x34 < x33 then (if 0 ≤ x34 then (if x34 < (x32.length : Int) then (if x3 = true then ((edit_file.f k ((rd_T55 x32 x34).f0) ((rd_T55 x32 x34).f1) ((rd_T55 x32 x34).f2) ((rd_T55 x32 x34).f3) ((rd_T55 x32 x34).f4)).bind fun t123 => (edit_Check.l0 k t123 x32 x33 (wrap64 (x34 + 1)))) else (edit_Check.l0 k false x32 x33 (wrap64 (x34 + 1)))) else (none)) else (none)) else (if x3 = true then (some 0) else (some 12))
end
def edit_Check.f (k : Nat) (a0_0 : Int) (a0_1 : Int) (a0_2 : Int) (l0_3 : List (S55)) (l0_4 : List Int) : Option (Int) := (edit_in.f k 0 1125899906842624 (([a0_0,a0_1,a0_2] : List Int))).bind fun t119 => (if t119 = true then (if (l0_3.length : Int) ≤ 200 then (if (l0_4.length : Int) ≤ 200 then ((edit_in.f k 1 1125899906842624 l0_4).bind fun t120 => (edit_Check.j0 k t120 a0_0 a0_1 a0_2 l0_3 l0_4)) else (edit_Check.j0 k false a0_0 a0_1 a0_2 l0_3 l0_4)) else (edit_Check.j0 k false a0_0 a0_1 a0_2 l0_3 l0_4)) else (edit_Check.j0 k false a0_0 a0_1 a0_2 l0_3 l0_4))
theorem edit_Check.mono_l : ∀ k,(∀ y0 y1 y2 y3 y4 y5,LeO (edit_Check.j0 k y0 y1 y2 y3 y4 y5) (edit_Check.j0 (k + 1) y0 y1 y2 y3 y4 y5)) ∧ (∀ y0 y1 y2 y3,LeO (edit_Check.l0 k y0 y1 y2 y3) (edit_Check.l0 (k + 1) y0 y1 y2 y3))
 | 0 => ⟨fun _ _ _ _ _ _ r h => by simp [edit_Check.j0] at h, fun _ _ _ _ r h => by simp [edit_Check.l0] at h⟩
 | k + 1 => by
  obtain ⟨ih0, ih1⟩ := edit_Check.mono_l k
  refine ⟨?_, ?_⟩
  ·intro y0 y1 y2 y3 y4 y5
   unfold edit_Check.j0
   repeat' first
  |(with_reducible exact ih0 _ _ _ _ _ _)
  |(with_reducible exact ih1 _ _ _ _)
  |(with_reducible exact edit_file.mono _ _ _ _ _ _)
  |(with_reducible exact edit_in.mono _ _ _ _)
  |(with_reducible exact LeO.refl _)
  |(with_reducible exact LeO.none _)
  |(with_reducible refine LeO.ite ?_ ?_)
  |(with_reducible refine LeO.bind ?_ (fun _ => ?_))
  |exact ih0 _ _ _ _ _ _
  |exact ih1 _ _ _ _
  |exact edit_file.mono _ _ _ _ _ _
  |exact edit_in.mono _ _ _ _
  |exact LeO.none _
  |refine LeO.ite ?_ ?_
  |refine LeO.bind ?_ (fun _ => ?_)
  ·intro y0 y1 y2 y3
   unfold edit_Check.l0
   repeat' first
  |(with_reducible exact ih0 _ _ _ _ _ _)
  |(with_reducible exact ih1 _ _ _ _)
  |(with_reducible exact edit_file.mono _ _ _ _ _ _)
  |(with_reducible exact edit_in.mono _ _ _ _)
  |(with_reducible exact LeO.refl _)
  |(with_reducible exact LeO.none _)
  |(with_reducible refine LeO.ite ?_ ?_)
  |(with_reducible refine LeO.bind ?_ (fun _ => ?_))
  |exact ih0 _ _ _ _ _ _
  |exact ih1 _ _ _ _
  |exact edit_file.mono _ _ _ _ _ _
  |exact edit_in.mono _ _ _ _
  |exact LeO.none _
  |refine LeO.ite ?_ ?_
  |refine LeO.bind ?_ (fun _ => ?_)
theorem edit_Check.mono : ∀ a0 a1 a2 a3 a4 k, LeO (edit_Check.f k a0 a1 a2 a3 a4) (edit_Check.f (k + 1) a0 a1 a2 a3 a4) := by
 intro a0 a1 a2 a3 a4 k
 obtain ⟨ih0, ih1⟩ := edit_Check.mono_l k
 unfold edit_Check.f
 repeat' first
  |(with_reducible exact ih0 _ _ _ _ _ _)
  |(with_reducible exact ih1 _ _ _ _)
  |(with_reducible exact edit_file.mono _ _ _ _ _ _)
  |(with_reducible exact edit_in.mono _ _ _ _)
  |(with_reducible exact LeO.refl _)
  |(with_reducible exact LeO.none _)
  |(with_reducible refine LeO.ite ?_ ?_)
  |(with_reducible refine LeO.bind ?_ (fun _ => ?_))
  |exact ih0 _ _ _ _ _ _
  |exact ih1 _ _ _ _
  |exact edit_file.mono _ _ _ _ _ _
  |exact edit_in.mono _ _ _ _
  |exact LeO.none _
  |refine LeO.ite ?_ ?_
  |refine LeO.bind ?_ (fun _ => ?_)
set_option maxHeartbeats 80000000 in
set_option maxRecDepth 100000 in
theorem edit_Check.calls (k : Nat) (a0_0 : Int) (a0_1 : Int) (a0_2 : Int) (A0_3 : Option Addr) (c0_3 : Nat) (l0_3 : List (S55)) (A0_4 : Option Addr) (c0_4 : Nat) (l0_4 : List Int) (r : Int) (w : World) (hr0_3 : Kd.C k55 w A0_3 l0_3.length l0_3) (hc0_3 : l0_3.length ≤ c0_3) (hr0_4 : Kd.C (Kd.int .i64) w A0_4 l0_4.length l0_4) (hc0_4 : l0_4.length ≤ c0_4) (h : edit_Check.f k a0_0 a0_1 a0_2 l0_3 l0_4 = some r) :
  Calls Try.prog 27 #[.agg #[.int .i64 a0_0,.int .i64 a0_1,.int .i64 a0_2,.slice A0_3 l0_3.length c0_3,.slice A0_4 l0_4.length c0_4]] w fun e w' => e = .returned (.int .i64 r) ∧ Below w.heap.size w w' := by
 have hu43 := Try.underlying43
 have hu55 := Try.underlying55
 have HR0_3 := Aside0.mk hr0_3
 have HC0_3 := Aside0.mk hc0_3
 clear hr0_3 hc0_3
 have HR0_4 := Aside0.mk hr0_4
 have HC0_4 := Aside0.mk hc0_4
 clear hr0_4 hc0_4
 have HB := Aside0.mk (Below.refl w.heap.size w)
 have H : ((edit_in.f k 0 1125899906842624 (([a0_0,a0_1,a0_2] : List Int))).bind fun t119 => (if t119 = true then (if (l0_3.length : Int) ≤ 200 then (if (l0_4.length : Int) ≤ 200 then ((edit_in.f k 1 1125899906842624 l0_4).bind fun t120 => (edit_Check.j0 k t120 a0_0 a0_1 a0_2 l0_3 l0_4)) else (edit_Check.j0 k false a0_0 a0_1 a0_2 l0_3 l0_4)) else (edit_Check.j0 k false a0_0 a0_1 a0_2 l0_3 l0_4)) else (edit_Check.j0 k false a0_0 a0_1 a0_2 l0_3 l0_4))) = some r := h
 clear h
 have HC2 := Aside0.mk H
 clear H
 go_enter Try.func27, Try.ntmps27
 go_upto_region 1 with (first|((with_reducible refine gate_dst (N := 1) rfl ?_);(try (refine gate_guard (by rfl) ?_;dsimp only));refine box_event ?hg (N := 1) ?hd (cs := #[.int .i64 a0_0,.int .i64 a0_1,.int .i64 a0_2,.slice A0_3 l0_3.length c0_3,.slice A0_4 l0_4.length c0_4]) (t := 43) ?hr ?_;(case hd => rfl);(case hg => rfl);(case hr => first|(go_simp;done)|(go_simp;rfl));intro gb115 hg w3 hbox hb;have n0_ := Aside0.mk (below_step (by repeat (first|(with_reducible first|exact HB.out|apply below_alloc|apply pw_below_drewN|apply below_drew1)|exact HB.out)) hb);have n1_ := Aside0.mk (hbox);have n2_ := Aside0.mk ((by rw [hg];exact (below_size (by repeat (first|(with_reducible first|exact HB.out|apply below_alloc|apply pw_below_drewN|apply below_drew1)|exact HB.out))) : w.heap.size ≤ gb115));have n3_ := Aside0.mk ((by rw [hg];exact (below_size (by repeat (first|(with_reducible first|exact HB.out|apply below_alloc|apply pw_below_drewN|apply below_drew1)|exact HB.out))) : w.heap.size ≤ gb115));clear HB;have HB := n0_;have BK115 := n1_;have GW115 := n2_;have GE115 := n3_;clear n0_ n1_ n2_ n3_;clear hb hbox hg))
 (try simp only [Act.put, List.setIfInBounds_toArray, List.set_cons_zero, List.set_cons_succ])
 go_cut [3] (fun v3 wc => ∃ (kq : Nat) (x3_1 : Bool),v3 = .bool x3_1 ∧ Aside0 (edit_Check.j0 kq x3_1 a0_0 a0_1 a0_2 l0_3 l0_4 = some r) ∧ Aside0 (kq ≤ k) ∧ Aside0 (wc.heap[gb115]? = some (.cells #[.int .i64 a0_0,.int .i64 a0_1,.int .i64 a0_2,(.slice A0_3 l0_3.length c0_3),(.slice A0_4 l0_4.length c0_4)] 43 (0,0))) ∧ Aside0 (Below w.heap.size w wc))
 case first =>
  have H := HC2.out
  clear HC2
  obtain ⟨y116, hy116⟩ : ∃ y_ : List Int, y_ = (([a0_0, a0_1, a0_2] : List Int)) := ⟨_, rfl⟩
  replace H : ((edit_in.f k 0 1125899906842624 y116).bind fun t119 => (if t119 = true then (if (l0_3.length : Int) ≤ 200 then (if (l0_4.length : Int) ≤ 200 then ((edit_in.f k 1 1125899906842624 l0_4).bind fun t120 => (edit_Check.j0 k t120 a0_0 a0_1 a0_2 l0_3 l0_4)) else (edit_Check.j0 k false a0_0 a0_1 a0_2 l0_3 l0_4)) else (edit_Check.j0 k false a0_0 a0_1 a0_2 l0_3 l0_4)) else (edit_Check.j0 k false a0_0 a0_1 a0_2 l0_3 l0_4))) = some r := by first|(rw [hy116];with_reducible exact H)|(have H2_ := (Option.bind_some _ _).symm.trans H;rw [hy116];with_reducible exact H2_)|(have H2_ := (Option.bind_some _ _).symm.trans H;with_reducible exact H2_) | with_reducible exact H|(rw [hy116];exact H)|exact H
  have Ny116 := Aside0.mk hy116
  clear hy116
  replace H := Option.bind_eq_some_iff.mp H
  obtain ⟨t119, A40, H⟩ := H
  replace H : (if t119 = true then (if (l0_3.length : Int) ≤ 200 then (if (l0_4.length : Int) ≤ 200 then ((edit_in.f k 1 1125899906842624 l0_4).bind fun t120 => (edit_Check.j0 k t120 a0_0 a0_1 a0_2 l0_3 l0_4)) else (edit_Check.j0 k false a0_0 a0_1 a0_2 l0_3 l0_4)) else (edit_Check.j0 k false a0_0 a0_1 a0_2 l0_3 l0_4)) else (edit_Check.j0 k false a0_0 a0_1 a0_2 l0_3 l0_4)) = some r := H
  have A4 := Aside0.mk A40
  clear A40
  by_cases c5 : t119 = true
  ·subst c5
   have H1 : (if (l0_3.length : Int) ≤ 200 then (if (l0_4.length : Int) ≤ 200 then ((edit_in.f k 1 1125899906842624 l0_4).bind fun t120 => (edit_Check.j0 k t120 a0_0 a0_1 a0_2 l0_3 l0_4)) else (edit_Check.j0 k false a0_0 a0_1 a0_2 l0_3 l0_4)) else (edit_Check.j0 k false a0_0 a0_1 a0_2 l0_3 l0_4)) = some r := by rw [if_pos rfl] at H;exact H
   clear H
   have H := H1
   clear H1
   by_cases c6 : (l0_3.length : Int) ≤ 200
   ·rw [if_pos c6] at H
    have c6b0 : decide ((l0_3.length : Int) ≤ 200) = true := decide_eq_true c6
    have c6b1 : decide (l0_3.length ≤ 200) = true := decide_eq_true (by omega)
    clear c6
    (first | rw [c6b0]|(simp only [i64_w, i32_w]; rw [c6b0]) | skip)
    by_cases c7 : (l0_4.length : Int) ≤ 200
    ·rw [if_pos c7] at H
     have c7b0 : decide ((l0_4.length : Int) ≤ 200) = true := decide_eq_true c7
     have c7b1 : decide (l0_4.length ≤ 200) = true := decide_eq_true (by omega)
     clear c7
     replace H := Option.bind_eq_some_iff.mp H
     obtain ⟨t120, A80, H⟩ := H
     replace H : (edit_Check.j0 k t120 a0_0 a0_1 a0_2 l0_3 l0_4) = some r := H
     have A8 := Aside0.mk A80
     clear A80
     have H' := Aside0.mk H
     clear H
     have hcz9_0 : w3.cell? ⟨gb115, 0, none⟩ = some (.int .i64 a0_0) := (blk_cell BK115.out 0).trans rfl
     have hcz9_1 : w3.cell? ⟨gb115, 1, none⟩ = some (.int .i64 a0_1) := (blk_cell BK115.out 1).trans rfl
     have hcz9_2 : w3.cell? ⟨gb115, 2, none⟩ = some (.int .i64 a0_2) := (blk_cell BK115.out 2).trans rfl
     have hcz9_3 : w3.cell? ⟨gb115, 3, none⟩ = some (.slice A0_3 l0_3.length c0_3) := (blk_cell BK115.out 3).trans rfl
     have hcz9_4 : w3.cell? ⟨gb115, 4, none⟩ = some (.slice A0_4 l0_4.length c0_4) := (blk_cell BK115.out 4).trans rfl
     have hfz9_0 := blk_frozen BK115.out 0
     have hfz9_1 := blk_frozen BK115.out 1
     have hfz9_2 := blk_frozen BK115.out 2
     have hfz9_3 := blk_frozen BK115.out 3
     have hfz9_4 := blk_frozen BK115.out 4
     go_wp2_with (first|((with_reducible refine gate_dst (N := 12) rfl ?_);(try (refine gate_guard (by rfl) ?_;dsimp only));refine Kd.R_lit (Kd.int .i64) _ 2 ?hg (N := 12) ?hd (xs := ([a0_0,a0_1,a0_2] : List Int)) (inner := [.int .i64 a0_0,.int .i64 a0_1,.int .i64 a0_2]) (ok := fun _ => True) (okp := fun _ => True) ?hr ?hp (fun _ hk => hk) trivial (Below.refl _ _) (Nat.le_refl _) (by simp) ?_;(case hd => rfl);(case hg => rfl);(case hr => first|(go_simp;done)|(go_simp;rfl));(case hp => exact (Reps.one (show Kd.M (Kd.int .i64) _ _ _ a0_0 [.int .i64 a0_0] from rfl) (Reps.one (show Kd.M (Kd.int .i64) _ _ _ a0_1 [.int .i64 a0_1] from rfl) (Reps.one (show Kd.M (Kd.int .i64) _ _ _ a0_2 [.int .i64 a0_2] from rfl) (Reps.none _ _)))));intro v117 w10 ho11 hb hg_ hnew_;clear hg_ hnew_;(first | rw [← Ny116.out] at ho11|(simp only [Int.reduceToNat] at ho11;rw [← Ny116.out] at ho11));have n0_ := Aside0.mk (Kd.R_lower ho11 (below_size (by repeat (first|(with_reducible first|exact HB.out|apply below_alloc|apply pw_below_drewN|apply below_drew1|refine below_set ?_ GE115.out)|exact HB.out))));have n1_ := Aside0.mk (blk_below (g := gb115) (o := .cells #[.int .i64 a0_0,.int .i64 a0_1,.int .i64 a0_2,.slice A0_3 l0_3.length c0_3,.slice A0_4 l0_4.length c0_4] 43 (0,0)) (by (with_reducible repeat (first|refine blk_drewN ?_ _|refine blk_drew ?_|refine blk_alloc ?_ _));exact BK115.out) hb);have n2_ := Aside0.mk (below_step (by repeat (first|(with_reducible first|exact HB.out|apply below_alloc|apply pw_below_drewN|apply below_drew1|refine below_set ?_ GE115.out)|exact HB.out)) hb);clear BK115;clear HB;have HO118 := n0_;have BK115 := n1_;have HB := n2_;clear n0_ n1_ n2_;clear hb ho11;obtain ⟨Ao12,co12,eo12⟩ := Kd.R_slice HO118.out;subst eo12)|((with_reducible refine gate_callee (f := 58) rfl ?_);refine goesL_ (some 13) rfl rfl Try.func58 (by kernel_rfl) rfl #[.int .i64 0,.int .i64 1125899906842624,.slice Ao12 y116.length co12] rfl (by (try simp only [List.map_toArray,List.map_cons,List.map_nil]);first | done | rfl|(simp only [List.length_drop,List.length_take];rfl)) ?_;(with_reducible refine (edit_in.calls k 0 1125899906842624 _ _ y116 true _ ?side1 ?side2 A4.out).mono ?_);(case side1 => repeat (first|exact (Kd.R_reads' HO118.out).2.2|(with_reducible refine Kd.C_alloc ?_ _)|(with_reducible refine Kd.C_drewN ?_ _)|(with_reducible refine Kd.C_drew ?_)));(case side2 => exact (Kd.R_reads' HO118.out).2.1);rintro e w' ⟨rfl,⟨nd,rfl⟩⟩;refine ⟨_,rfl,?_⟩;have hcz13_0 : w10.cell? ⟨gb115,0,none⟩ = some (.int .i64 a0_0) := (blk_cell BK115.out 0).trans rfl;have hcz13_1 : w10.cell? ⟨gb115,1,none⟩ = some (.int .i64 a0_1) := (blk_cell BK115.out 1).trans rfl;have hcz13_2 : w10.cell? ⟨gb115,2,none⟩ = some (.int .i64 a0_2) := (blk_cell BK115.out 2).trans rfl;have hcz13_3 : w10.cell? ⟨gb115,3,none⟩ = some (.slice A0_3 l0_3.length c0_3) := (blk_cell BK115.out 3).trans rfl;have hcz13_4 : w10.cell? ⟨gb115,4,none⟩ = some (.slice A0_4 l0_4.length c0_4) := (blk_cell BK115.out 4).trans rfl;have hfz13_0 := blk_frozen BK115.out 0;have hfz13_1 := blk_frozen BK115.out 1;have hfz13_2 := blk_frozen BK115.out 2;have hfz13_3 := blk_frozen BK115.out 3;have hfz13_4 := blk_frozen BK115.out 4)|(go_at_call 58;(with_reducible refine (edit_in.calls k 1 1125899906842624 _ _ l0_4 t120 _ ?side1 ?side2 A8.out).mono ?_);(case side1 => repeat (first|exact (Kd.C_below HR0_4.out (by repeat (first|(with_reducible first|exact HB.out|apply below_alloc|apply pw_below_drewN|apply below_drew1|refine below_set ?_ GE115.out)|exact HB.out)))|(with_reducible refine Kd.C_alloc ?_ _)|(with_reducible refine Kd.C_drewN ?_ _)|(with_reducible refine Kd.C_drew ?_)));(case side2 => exact HC0_4.out);rintro e w' ⟨rfl,⟨nd,rfl⟩⟩))
     go_meet
     case rel => exact ⟨_,(t120),(by first | rfl|(simp;done)|(simp [*];done)),H',⟨by first | omega|exact Nat.le_refl _⟩,⟨by (with_reducible repeat (first|refine blk_drewN ?_ _|refine blk_drew ?_|refine blk_alloc ?_ _));exact BK115.out⟩,⟨by repeat (first|(with_reducible first|exact HB.out|apply below_alloc|apply pw_below_drewN|apply below_drew1|refine below_set ?_ GE115.out)|exact HB.out)⟩⟩
    ·rw [if_neg c7] at H
     have c7b0 : decide ((l0_4.length : Int) ≤ 200) = false := decide_eq_false c7
     have c7b1 : decide (l0_4.length ≤ 200) = false := decide_eq_false (by omega)
     clear c7
     have H' := Aside0.mk H
     clear H
     have hcz14_0 : w3.cell? ⟨gb115, 0, none⟩ = some (.int .i64 a0_0) := (blk_cell BK115.out 0).trans rfl
     have hcz14_1 : w3.cell? ⟨gb115, 1, none⟩ = some (.int .i64 a0_1) := (blk_cell BK115.out 1).trans rfl
     have hcz14_2 : w3.cell? ⟨gb115, 2, none⟩ = some (.int .i64 a0_2) := (blk_cell BK115.out 2).trans rfl
     have hcz14_3 : w3.cell? ⟨gb115, 3, none⟩ = some (.slice A0_3 l0_3.length c0_3) := (blk_cell BK115.out 3).trans rfl
     have hcz14_4 : w3.cell? ⟨gb115, 4, none⟩ = some (.slice A0_4 l0_4.length c0_4) := (blk_cell BK115.out 4).trans rfl
     have hfz14_0 := blk_frozen BK115.out 0
     have hfz14_1 := blk_frozen BK115.out 1
     have hfz14_2 := blk_frozen BK115.out 2
     have hfz14_3 := blk_frozen BK115.out 3
     have hfz14_4 := blk_frozen BK115.out 4
     go_wp2_with (first|((with_reducible refine gate_dst (N := 12) rfl ?_);(try (refine gate_guard (by rfl) ?_;dsimp only));refine Kd.R_lit (Kd.int .i64) _ 2 ?hg (N := 12) ?hd (xs := ([a0_0,a0_1,a0_2] : List Int)) (inner := [.int .i64 a0_0,.int .i64 a0_1,.int .i64 a0_2]) (ok := fun _ => True) (okp := fun _ => True) ?hr ?hp (fun _ hk => hk) trivial (Below.refl _ _) (Nat.le_refl _) (by simp) ?_;(case hd => rfl);(case hg => rfl);(case hr => first|(go_simp;done)|(go_simp;rfl));(case hp => exact (Reps.one (show Kd.M (Kd.int .i64) _ _ _ a0_0 [.int .i64 a0_0] from rfl) (Reps.one (show Kd.M (Kd.int .i64) _ _ _ a0_1 [.int .i64 a0_1] from rfl) (Reps.one (show Kd.M (Kd.int .i64) _ _ _ a0_2 [.int .i64 a0_2] from rfl) (Reps.none _ _)))));intro v117 w15 ho16 hb hg_ hnew_;clear hg_ hnew_;(first | rw [← Ny116.out] at ho16|(simp only [Int.reduceToNat] at ho16;rw [← Ny116.out] at ho16));have n0_ := Aside0.mk (Kd.R_lower ho16 (below_size (by repeat (first|(with_reducible first|exact HB.out|apply below_alloc|apply pw_below_drewN|apply below_drew1|refine below_set ?_ GE115.out)|exact HB.out))));have n1_ := Aside0.mk (blk_below (g := gb115) (o := .cells #[.int .i64 a0_0,.int .i64 a0_1,.int .i64 a0_2,.slice A0_3 l0_3.length c0_3,.slice A0_4 l0_4.length c0_4] 43 (0,0)) (by (with_reducible repeat (first|refine blk_drewN ?_ _|refine blk_drew ?_|refine blk_alloc ?_ _));exact BK115.out) hb);have n2_ := Aside0.mk (below_step (by repeat (first|(with_reducible first|exact HB.out|apply below_alloc|apply pw_below_drewN|apply below_drew1|refine below_set ?_ GE115.out)|exact HB.out)) hb);clear BK115;clear HB;have HO118 := n0_;have BK115 := n1_;have HB := n2_;clear n0_ n1_ n2_;clear hb ho16;obtain ⟨Ao17,co17,eo17⟩ := Kd.R_slice HO118.out;subst eo17)|((with_reducible refine gate_callee (f := 58) rfl ?_);refine goesL_ (some 13) rfl rfl Try.func58 (by kernel_rfl) rfl #[.int .i64 0,.int .i64 1125899906842624,.slice Ao17 y116.length co17] rfl (by (try simp only [List.map_toArray,List.map_cons,List.map_nil]);first | done | rfl|(simp only [List.length_drop,List.length_take];rfl)) ?_;(with_reducible refine (edit_in.calls k 0 1125899906842624 _ _ y116 true _ ?side1 ?side2 A4.out).mono ?_);(case side1 => repeat (first|exact (Kd.R_reads' HO118.out).2.2|(with_reducible refine Kd.C_alloc ?_ _)|(with_reducible refine Kd.C_drewN ?_ _)|(with_reducible refine Kd.C_drew ?_)));(case side2 => exact (Kd.R_reads' HO118.out).2.1);rintro e w' ⟨rfl,⟨nd,rfl⟩⟩;refine ⟨_,rfl,?_⟩;have hcz18_0 : w15.cell? ⟨gb115,0,none⟩ = some (.int .i64 a0_0) := (blk_cell BK115.out 0).trans rfl;have hcz18_1 : w15.cell? ⟨gb115,1,none⟩ = some (.int .i64 a0_1) := (blk_cell BK115.out 1).trans rfl;have hcz18_2 : w15.cell? ⟨gb115,2,none⟩ = some (.int .i64 a0_2) := (blk_cell BK115.out 2).trans rfl;have hcz18_3 : w15.cell? ⟨gb115,3,none⟩ = some (.slice A0_3 l0_3.length c0_3) := (blk_cell BK115.out 3).trans rfl;have hcz18_4 : w15.cell? ⟨gb115,4,none⟩ = some (.slice A0_4 l0_4.length c0_4) := (blk_cell BK115.out 4).trans rfl;have hfz18_0 := blk_frozen BK115.out 0;have hfz18_1 := blk_frozen BK115.out 1;have hfz18_2 := blk_frozen BK115.out 2;have hfz18_3 := blk_frozen BK115.out 3;have hfz18_4 := blk_frozen BK115.out 4))
     go_meet
     case rel => exact ⟨_,(false),(by first | rfl|(simp;done)|(simp [*];done)),H',⟨by first | omega|exact Nat.le_refl _⟩,⟨by (with_reducible repeat (first|refine blk_drewN ?_ _|refine blk_drew ?_|refine blk_alloc ?_ _));exact BK115.out⟩,⟨by repeat (first|(with_reducible first|exact HB.out|apply below_alloc|apply pw_below_drewN|apply below_drew1|refine below_set ?_ GE115.out)|exact HB.out)⟩⟩
   ·rw [if_neg c6] at H
    have c6b0 : decide ((l0_3.length : Int) ≤ 200) = false := decide_eq_false c6
    have c6b1 : decide (l0_3.length ≤ 200) = false := decide_eq_false (by omega)
    clear c6
    (first | rw [c6b0]|(simp only [i64_w, i32_w]; rw [c6b0]) | skip)
    have H' := Aside0.mk H
    clear H
    have hcz19_0 : w3.cell? ⟨gb115, 0, none⟩ = some (.int .i64 a0_0) := (blk_cell BK115.out 0).trans rfl
    have hcz19_1 : w3.cell? ⟨gb115, 1, none⟩ = some (.int .i64 a0_1) := (blk_cell BK115.out 1).trans rfl
    have hcz19_2 : w3.cell? ⟨gb115, 2, none⟩ = some (.int .i64 a0_2) := (blk_cell BK115.out 2).trans rfl
    have hcz19_3 : w3.cell? ⟨gb115, 3, none⟩ = some (.slice A0_3 l0_3.length c0_3) := (blk_cell BK115.out 3).trans rfl
    have hcz19_4 : w3.cell? ⟨gb115, 4, none⟩ = some (.slice A0_4 l0_4.length c0_4) := (blk_cell BK115.out 4).trans rfl
    have hfz19_0 := blk_frozen BK115.out 0
    have hfz19_1 := blk_frozen BK115.out 1
    have hfz19_2 := blk_frozen BK115.out 2
    have hfz19_3 := blk_frozen BK115.out 3
    have hfz19_4 := blk_frozen BK115.out 4
    go_wp2_with (first|((with_reducible refine gate_dst (N := 12) rfl ?_);(try (refine gate_guard (by rfl) ?_;dsimp only));refine Kd.R_lit (Kd.int .i64) _ 2 ?hg (N := 12) ?hd (xs := ([a0_0,a0_1,a0_2] : List Int)) (inner := [.int .i64 a0_0,.int .i64 a0_1,.int .i64 a0_2]) (ok := fun _ => True) (okp := fun _ => True) ?hr ?hp (fun _ hk => hk) trivial (Below.refl _ _) (Nat.le_refl _) (by simp) ?_;(case hd => rfl);(case hg => rfl);(case hr => first|(go_simp;done)|(go_simp;rfl));(case hp => exact (Reps.one (show Kd.M (Kd.int .i64) _ _ _ a0_0 [.int .i64 a0_0] from rfl) (Reps.one (show Kd.M (Kd.int .i64) _ _ _ a0_1 [.int .i64 a0_1] from rfl) (Reps.one (show Kd.M (Kd.int .i64) _ _ _ a0_2 [.int .i64 a0_2] from rfl) (Reps.none _ _)))));intro v117 w20 ho21 hb hg_ hnew_;clear hg_ hnew_;(first | rw [← Ny116.out] at ho21|(simp only [Int.reduceToNat] at ho21;rw [← Ny116.out] at ho21));have n0_ := Aside0.mk (Kd.R_lower ho21 (below_size (by repeat (first|(with_reducible first|exact HB.out|apply below_alloc|apply pw_below_drewN|apply below_drew1|refine below_set ?_ GE115.out)|exact HB.out))));have n1_ := Aside0.mk (blk_below (g := gb115) (o := .cells #[.int .i64 a0_0,.int .i64 a0_1,.int .i64 a0_2,.slice A0_3 l0_3.length c0_3,.slice A0_4 l0_4.length c0_4] 43 (0,0)) (by (with_reducible repeat (first|refine blk_drewN ?_ _|refine blk_drew ?_|refine blk_alloc ?_ _));exact BK115.out) hb);have n2_ := Aside0.mk (below_step (by repeat (first|(with_reducible first|exact HB.out|apply below_alloc|apply pw_below_drewN|apply below_drew1|refine below_set ?_ GE115.out)|exact HB.out)) hb);clear BK115;clear HB;have HO118 := n0_;have BK115 := n1_;have HB := n2_;clear n0_ n1_ n2_;clear hb ho21;obtain ⟨Ao22,co22,eo22⟩ := Kd.R_slice HO118.out;subst eo22)|((with_reducible refine gate_callee (f := 58) rfl ?_);refine goesL_ (some 13) rfl rfl Try.func58 (by kernel_rfl) rfl #[.int .i64 0,.int .i64 1125899906842624,.slice Ao22 y116.length co22] rfl (by (try simp only [List.map_toArray,List.map_cons,List.map_nil]);first | done | rfl|(simp only [List.length_drop,List.length_take];rfl)) ?_;(with_reducible refine (edit_in.calls k 0 1125899906842624 _ _ y116 true _ ?side1 ?side2 A4.out).mono ?_);(case side1 => repeat (first|exact (Kd.R_reads' HO118.out).2.2|(with_reducible refine Kd.C_alloc ?_ _)|(with_reducible refine Kd.C_drewN ?_ _)|(with_reducible refine Kd.C_drew ?_)));(case side2 => exact (Kd.R_reads' HO118.out).2.1);rintro e w' ⟨rfl,⟨nd,rfl⟩⟩;refine ⟨_,rfl,?_⟩;have hcz23_0 : w20.cell? ⟨gb115,0,none⟩ = some (.int .i64 a0_0) := (blk_cell BK115.out 0).trans rfl;have hcz23_1 : w20.cell? ⟨gb115,1,none⟩ = some (.int .i64 a0_1) := (blk_cell BK115.out 1).trans rfl;have hcz23_2 : w20.cell? ⟨gb115,2,none⟩ = some (.int .i64 a0_2) := (blk_cell BK115.out 2).trans rfl;have hcz23_3 : w20.cell? ⟨gb115,3,none⟩ = some (.slice A0_3 l0_3.length c0_3) := (blk_cell BK115.out 3).trans rfl;have hcz23_4 : w20.cell? ⟨gb115,4,none⟩ = some (.slice A0_4 l0_4.length c0_4) := (blk_cell BK115.out 4).trans rfl;have hfz23_0 := blk_frozen BK115.out 0;have hfz23_1 := blk_frozen BK115.out 1;have hfz23_2 := blk_frozen BK115.out 2;have hfz23_3 := blk_frozen BK115.out 3;have hfz23_4 := blk_frozen BK115.out 4))
    go_meet
    case rel => exact ⟨_,(false),(by first | rfl|(simp;done)|(simp [*];done)),H',⟨by first | omega|exact Nat.le_refl _⟩,⟨by (with_reducible repeat (first|refine blk_drewN ?_ _|refine blk_drew ?_|refine blk_alloc ?_ _));exact BK115.out⟩,⟨by repeat (first|(with_reducible first|exact HB.out|apply below_alloc|apply pw_below_drewN|apply below_drew1|refine below_set ?_ GE115.out)|exact HB.out)⟩⟩
  ·replace c5 := Bool.eq_false_iff.mpr c5
   subst c5
   have H1 : (edit_Check.j0 k false a0_0 a0_1 a0_2 l0_3 l0_4) = some r := by rw [if_neg (show ¬ (false = true) by decide)] at H; exact H
   clear H
   have H := H1
   clear H1
   have H' := Aside0.mk H
   clear H
   have hcz24_0 : w3.cell? ⟨gb115, 0, none⟩ = some (.int .i64 a0_0) := (blk_cell BK115.out 0).trans rfl
   have hcz24_1 : w3.cell? ⟨gb115, 1, none⟩ = some (.int .i64 a0_1) := (blk_cell BK115.out 1).trans rfl
   have hcz24_2 : w3.cell? ⟨gb115, 2, none⟩ = some (.int .i64 a0_2) := (blk_cell BK115.out 2).trans rfl
   have hcz24_3 : w3.cell? ⟨gb115, 3, none⟩ = some (.slice A0_3 l0_3.length c0_3) := (blk_cell BK115.out 3).trans rfl
   have hcz24_4 : w3.cell? ⟨gb115, 4, none⟩ = some (.slice A0_4 l0_4.length c0_4) := (blk_cell BK115.out 4).trans rfl
   have hfz24_0 := blk_frozen BK115.out 0
   have hfz24_1 := blk_frozen BK115.out 1
   have hfz24_2 := blk_frozen BK115.out 2
   have hfz24_3 := blk_frozen BK115.out 3
   have hfz24_4 := blk_frozen BK115.out 4
   go_wp2_with (first|((with_reducible refine gate_dst (N := 12) rfl ?_);(try (refine gate_guard (by rfl) ?_;dsimp only));refine Kd.R_lit (Kd.int .i64) _ 2 ?hg (N := 12) ?hd (xs := ([a0_0,a0_1,a0_2] : List Int)) (inner := [.int .i64 a0_0,.int .i64 a0_1,.int .i64 a0_2]) (ok := fun _ => True) (okp := fun _ => True) ?hr ?hp (fun _ hk => hk) trivial (Below.refl _ _) (Nat.le_refl _) (by simp) ?_;(case hd => rfl);(case hg => rfl);(case hr => first|(go_simp;done)|(go_simp;rfl));(case hp => exact (Reps.one (show Kd.M (Kd.int .i64) _ _ _ a0_0 [.int .i64 a0_0] from rfl) (Reps.one (show Kd.M (Kd.int .i64) _ _ _ a0_1 [.int .i64 a0_1] from rfl) (Reps.one (show Kd.M (Kd.int .i64) _ _ _ a0_2 [.int .i64 a0_2] from rfl) (Reps.none _ _)))));intro v117 w25 ho26 hb hg_ hnew_;clear hg_ hnew_;(first | rw [← Ny116.out] at ho26|(simp only [Int.reduceToNat] at ho26;rw [← Ny116.out] at ho26));have n0_ := Aside0.mk (Kd.R_lower ho26 (below_size (by repeat (first|(with_reducible first|exact HB.out|apply below_alloc|apply pw_below_drewN|apply below_drew1|refine below_set ?_ GE115.out)|exact HB.out))));have n1_ := Aside0.mk (blk_below (g := gb115) (o := .cells #[.int .i64 a0_0,.int .i64 a0_1,.int .i64 a0_2,.slice A0_3 l0_3.length c0_3,.slice A0_4 l0_4.length c0_4] 43 (0,0)) (by (with_reducible repeat (first|refine blk_drewN ?_ _|refine blk_drew ?_|refine blk_alloc ?_ _));exact BK115.out) hb);have n2_ := Aside0.mk (below_step (by repeat (first|(with_reducible first|exact HB.out|apply below_alloc|apply pw_below_drewN|apply below_drew1|refine below_set ?_ GE115.out)|exact HB.out)) hb);clear BK115;clear HB;have HO118 := n0_;have BK115 := n1_;have HB := n2_;clear n0_ n1_ n2_;clear hb ho26;obtain ⟨Ao27,co27,eo27⟩ := Kd.R_slice HO118.out;subst eo27)|((with_reducible refine gate_callee (f := 58) rfl ?_);refine goesL_ (some 13) rfl rfl Try.func58 (by kernel_rfl) rfl #[.int .i64 0,.int .i64 1125899906842624,.slice Ao27 y116.length co27] rfl (by (try simp only [List.map_toArray,List.map_cons,List.map_nil]);first | done | rfl|(simp only [List.length_drop,List.length_take];rfl)) ?_;(with_reducible refine (edit_in.calls k 0 1125899906842624 _ _ y116 false _ ?side1 ?side2 A4.out).mono ?_);(case side1 => repeat (first|exact (Kd.R_reads' HO118.out).2.2|(with_reducible refine Kd.C_alloc ?_ _)|(with_reducible refine Kd.C_drewN ?_ _)|(with_reducible refine Kd.C_drew ?_)));(case side2 => exact (Kd.R_reads' HO118.out).2.1);rintro e w' ⟨rfl,⟨nd,rfl⟩⟩;refine ⟨_,rfl,?_⟩))
   go_meet
   case rel => exact ⟨_,(false),(by first | rfl|(simp;done)|(simp [*];done)),H',⟨by first | omega|exact Nat.le_refl _⟩,⟨by (with_reducible repeat (first|refine blk_drewN ?_ _|refine blk_drew ?_|refine blk_alloc ?_ _));exact BK115.out⟩,⟨by repeat (first|(with_reducible first|exact HB.out|apply below_alloc|apply pw_below_drewN|apply below_drew1|refine below_set ?_ GE115.out)|exact HB.out)⟩⟩
 case rest =>
  clear HC2
  try clear c2
  try clear p2
  try clear c5
  try clear c6
  try clear c6b0
  try clear c6b1
  try clear c7
  try clear c7b0
  try clear c7b1
  try clear c27
  try clear hcz13_0
  try clear hcz13_1
  try clear hcz13_2
  try clear hcz13_3
  try clear hcz13_4
  try clear hcz14_0
  try clear hcz14_1
  try clear hcz14_2
  try clear hcz14_3
  try clear hcz14_4
  try clear hcz18_0
  try clear hcz18_1
  try clear hcz18_2
  try clear hcz18_3
  try clear hcz18_4
  try clear hcz19_0
  try clear hcz19_1
  try clear hcz19_2
  try clear hcz19_3
  try clear hcz19_4
  try clear hcz23_0
  try clear hcz23_1
  try clear hcz23_2
  try clear hcz23_3
  try clear hcz23_4
  try clear hcz24_0
  try clear hcz24_1
  try clear hcz24_2
  try clear hcz24_3
  try clear hcz24_4
  try clear hcz9_0
  try clear hcz9_1
  try clear hcz9_2
  try clear hcz9_3
  try clear hcz9_4
  try clear hfz13_0
  try clear hfz13_1
  try clear hfz13_2
  try clear hfz13_3
  try clear hfz13_4
  try clear hfz14_0
  try clear hfz14_1
  try clear hfz14_2
  try clear hfz14_3
  try clear hfz14_4
  try clear hfz18_0
  try clear hfz18_1
  try clear hfz18_2
  try clear hfz18_3
  try clear hfz18_4
  try clear hfz19_0
  try clear hfz19_1
  try clear hfz19_2
  try clear hfz19_3
  try clear hfz19_4
  try clear hfz23_0
  try clear hfz23_1
  try clear hfz23_2
  try clear hfz23_3
  try clear hfz23_4
  try clear hfz24_0
  try clear hfz24_1
  try clear hfz24_2
  try clear hfz24_3
  try clear hfz24_4
  try clear hfz9_0
  try clear hfz9_1
  try clear hfz9_2
  try clear hfz9_3
  try clear hfz9_4
  obtain ⟨kq, x3_1, rfl, HA, HJ1, BK115, HB⟩ := hcut
  cases kq with
  | zero => exact absurd HA.out (by simp [edit_Check.j0])
  | succ kj1 =>
   have H := HA.out
   clear HA
   simp only [edit_Check.j0] at H
   have H' := Aside0.mk H
   clear H
   have hcz28_0 : wc.cell? ⟨gb115, 0, none⟩ = some (.int .i64 a0_0) := (blk_cell BK115.out 0).trans rfl
   have hcz28_1 : wc.cell? ⟨gb115, 1, none⟩ = some (.int .i64 a0_1) := (blk_cell BK115.out 1).trans rfl
   have hcz28_2 : wc.cell? ⟨gb115, 2, none⟩ = some (.int .i64 a0_2) := (blk_cell BK115.out 2).trans rfl
   have hcz28_3 : wc.cell? ⟨gb115, 3, none⟩ = some (.slice A0_3 l0_3.length c0_3) := (blk_cell BK115.out 3).trans rfl
   have hcz28_4 : wc.cell? ⟨gb115, 4, none⟩ = some (.slice A0_4 l0_4.length c0_4) := (blk_cell BK115.out 4).trans rfl
   have hfz28_0 := blk_frozen BK115.out 0
   have hfz28_1 := blk_frozen BK115.out 1
   have hfz28_2 := blk_frozen BK115.out 2
   have hfz28_3 := blk_frozen BK115.out 3
   have hfz28_4 := blk_frozen BK115.out 4
   go_wp2
   go_loopg [3,34] kj1 (fun kq v3 v34 w' => ∃ (x3_2 : Bool) (x34_2 : Int),v3 = .bool x3_2 ∧ v34 = .int .i64 x34_2 ∧ Aside0 (edit_Check.l0 kq x3_2 l0_3 (l0_3.length : Int) x34_2 = some r) ∧ Aside0 (kq ≤ kj1) ∧ Aside0 (w'.heap[gb115]? = some (.cells #[.int .i64 a0_0,.int .i64 a0_1,.int .i64 a0_2,(.slice A0_3 l0_3.length c0_3),(.slice A0_4 l0_4.length c0_4)] 43 (0,0))) ∧ Aside0 (Below w.heap.size w w'))
   case atStart => exact ⟨(x3_1),(0),(by first | rfl|(simp;done)|(simp [*];done)),(by first | rfl|(simp;done)|(simp [*];done)),H',⟨Nat.le_refl _⟩,⟨by (with_reducible repeat (first|refine blk_drewN ?_ _|refine blk_drew ?_|refine blk_alloc ?_ _));exact BK115.out⟩,⟨by repeat (first|(with_reducible first|exact HB.out|apply below_alloc|apply pw_below_drewN|apply below_drew1|refine below_set ?_ GE115.out)|exact HB.out)⟩⟩
   case round =>
    clear H'
    try clear c2
    try clear p2
    try clear c5
    try clear c6
    try clear c6b0
    try clear c6b1
    try clear c7
    try clear c7b0
    try clear c7b1
    try clear c27
    try clear hcz13_0
    try clear hcz13_1
    try clear hcz13_2
    try clear hcz13_3
    try clear hcz13_4
    try clear hcz14_0
    try clear hcz14_1
    try clear hcz14_2
    try clear hcz14_3
    try clear hcz14_4
    try clear hcz18_0
    try clear hcz18_1
    try clear hcz18_2
    try clear hcz18_3
    try clear hcz18_4
    try clear hcz19_0
    try clear hcz19_1
    try clear hcz19_2
    try clear hcz19_3
    try clear hcz19_4
    try clear hcz23_0
    try clear hcz23_1
    try clear hcz23_2
    try clear hcz23_3
    try clear hcz23_4
    try clear hcz24_0
    try clear hcz24_1
    try clear hcz24_2
    try clear hcz24_3
    try clear hcz24_4
    try clear hcz28_0
    try clear hcz28_1
    try clear hcz28_2
    try clear hcz28_3
    try clear hcz28_4
    try clear hcz9_0
    try clear hcz9_1
    try clear hcz9_2
    try clear hcz9_3
    try clear hcz9_4
    try clear hfz13_0
    try clear hfz13_1
    try clear hfz13_2
    try clear hfz13_3
    try clear hfz13_4
    try clear hfz14_0
    try clear hfz14_1
    try clear hfz14_2
    try clear hfz14_3
    try clear hfz14_4
    try clear hfz18_0
    try clear hfz18_1
    try clear hfz18_2
    try clear hfz18_3
    try clear hfz18_4
    try clear hfz19_0
    try clear hfz19_1
    try clear hfz19_2
    try clear hfz19_3
    try clear hfz19_4
    try clear hfz23_0
    try clear hfz23_1
    try clear hfz23_2
    try clear hfz23_3
    try clear hfz23_4
    try clear hfz24_0
    try clear hfz24_1
    try clear hfz24_2
    try clear hfz24_3
    try clear hfz24_4
    try clear hfz28_0
    try clear hfz28_1
    try clear hfz28_2
    try clear hfz28_3
    try clear hfz28_4
    try clear hfz9_0
    try clear hfz9_1
    try clear hfz9_2
    try clear hfz9_3
    try clear hfz9_4
    try clear p2
    obtain ⟨x3_2, x34_2, rfl, rfl, HA, HK2, BK115, HB⟩ := hrel
    cases gk with
    | zero => exact absurd HA.out (by simp [edit_Check.l0])
    | succ k2 =>
     have H := HA.out
     clear HA
     simp only [edit_Check.l0] at H
     by_cases c29 : x34_2 < (l0_3.length : Int)
     ·rw [if_pos c29] at H
      have c29b0 : decide (x34_2 < (l0_3.length : Int)) = true := decide_eq_true c29
      clear c29
      by_cases c30 : 0 ≤ x34_2
      ·rw [if_pos c30] at H
       have c30b0 : decide (0 ≤ x34_2) = true := decide_eq_true c30
       clear c30
       by_cases c31 : x34_2 < (l0_3.length : Int)
       ·rw [if_pos c31] at H
        have c31b0 : decide (x34_2 < (l0_3.length : Int)) = true := decide_eq_true c31
        clear c31
        by_cases c32 : x3_2 = true
        ·subst c32
         have H1 : ((edit_file.f k2 ((rd_T55 l0_3 x34_2).f0) ((rd_T55 l0_3 x34_2).f1) ((rd_T55 l0_3 x34_2).f2) ((rd_T55 l0_3 x34_2).f3) ((rd_T55 l0_3 x34_2).f4)).bind fun t123 => (edit_Check.l0 k2 t123 l0_3 (l0_3.length : Int) (wrap64 (x34_2 + 1)))) = some r := by rw [if_pos rfl] at H;exact H
         clear H
         have H := H1
         clear H1
         replace H := Option.bind_eq_some_iff.mp H
         obtain ⟨t123, A330, H⟩ := H
         replace H : (edit_Check.l0 k2 t123 l0_3 (l0_3.length : Int) (wrap64 (x34_2 + 1))) = some r := H
         have A33 := Aside0.mk A330
         clear A330
         have H' := Aside0.mk H
         clear H
         have p121 : 0 ≤ (x34_2 : Int) := of_decide_eq_true (by first|(with_reducible assumption) | assumption)
         have q121 : x34_2 < (l0_3.length : Int) := of_decide_eq_true (by first|(with_reducible assumption) | assumption)
         obtain ⟨ad121, e121, hx121_0, hx121_1, hx121_2, hx121_3, hx121_4⟩ := at_T55 HR0_3.out x34_2 p121 q121
         cases e121
         replace hx121_0 := (HB.out.cell (World.block_lt_of_cell? w _ hx121_0)).trans hx121_0
         replace hx121_1 := (HB.out.cell (World.block_lt_of_cell? w _ hx121_1)).trans hx121_1
         replace hx121_2 := (HB.out.cell (World.block_lt_of_cell? w _ hx121_2)).trans hx121_2
         replace hx121_3 := (HB.out.cell (World.block_lt_of_cell? w _ hx121_3)).trans hx121_3
         replace hx121_4 := (HB.out.cell (World.block_lt_of_cell? w _ hx121_4)).trans hx121_4
         replace p121 := eq_true p121
         replace q121 := eq_true q121
         go_wp2_with (first|((with_reducible refine gate_dst (N := 5) rfl ?_);(try (refine gate_guard (by rfl) ?_;dsimp only));refine box_event ?hg (N := 5) ?hd (cs := #[.int .i64 0,.int .i64 0,.int .i64 0,.string (⟨#[]⟩ : ByteArray),.string (⟨#[]⟩ : ByteArray)]) (t := 55) ?hr ?_;(case hd => rfl);(case hg => rfl);(case hr => first|(go_simp;done)|(go_simp;rfl));intro gb122 hg w34 hbox hb;have n0_ := Aside0.mk (blk_below (g := gb115) (o := .cells #[.int .i64 a0_0,.int .i64 a0_1,.int .i64 a0_2,.slice (some ad121) l0_3.length c0_3,.slice A0_4 l0_4.length c0_4] 43 (0,0)) (by (with_reducible repeat (first|refine blk_drewN ?_ _|refine blk_drew ?_|refine blk_alloc ?_ _));exact BK115.out) hb);have n1_ := Aside0.mk (below_step (by repeat (first|(with_reducible first|exact HB.out|apply below_alloc|apply pw_below_drewN|apply below_drew1|refine below_set ?_ GE115.out)|exact HB.out)) hb);have n2_ := Aside0.mk (hbox);have n3_ := Aside0.mk ((by rw [hg];exact (below_size (by repeat (first|(with_reducible first|exact HB.out|apply below_alloc|apply pw_below_drewN|apply below_drew1|refine below_set ?_ GE115.out)|exact HB.out))) : w.heap.size ≤ gb122));have n4_ := Aside0.mk ((by rw [hg];exact (below_size (by repeat (first|(with_reducible first|exact HB.out|apply below_alloc|apply pw_below_drewN|apply below_drew1|refine below_set ?_ GE115.out)|exact HB.out))) : w.heap.size ≤ gb122));have n5_ := Aside0.mk ((by rw [hg];exact Nat.ne_of_lt (blk_lt (g := gb115) (o := .cells #[.int .i64 a0_0,.int .i64 a0_1,.int .i64 a0_2,.slice (some ad121) l0_3.length c0_3,.slice A0_4 l0_4.length c0_4] 43 (0,0)) (by (with_reducible repeat (first|refine blk_drewN ?_ _|refine blk_drew ?_|refine blk_alloc ?_ _));exact BK115.out)) : gb115 ≠ gb122));have n6_ := Aside0.mk ((by rw [hg];exact Nat.ne_of_gt (blk_lt (g := gb115) (o := .cells #[.int .i64 a0_0,.int .i64 a0_1,.int .i64 a0_2,.slice (some ad121) l0_3.length c0_3,.slice A0_4 l0_4.length c0_4] 43 (0,0)) (by (with_reducible repeat (first|refine blk_drewN ?_ _|refine blk_drew ?_|refine blk_alloc ?_ _));exact BK115.out)) : gb122 ≠ gb115));clear BK115;clear HB;have BK115 := n0_;have HB := n1_;have BK122 := n2_;have GW122 := n3_;have GE122 := n4_;have NB115_122 := n5_;have NB122_115 := n6_;clear n0_ n1_ n2_ n3_ n4_ n5_ n6_;clear hb hbox hg;have hnb35 := NB122_115.out;have hnc35 := NB115_122.out;have hcz36_0 : w34.cell? ⟨gb122,0,none⟩ = some (.int .i64 0) := (blk_cell BK122.out 0).trans rfl;have hcz36_1 : w34.cell? ⟨gb122,1,none⟩ = some (.int .i64 0) := (blk_cell BK122.out 1).trans rfl;have hcz36_2 : w34.cell? ⟨gb122,2,none⟩ = some (.int .i64 0) := (blk_cell BK122.out 2).trans rfl;have hcz36_3 : w34.cell? ⟨gb122,3,none⟩ = some (.string (⟨#[]⟩ : ByteArray)) := (blk_cell BK122.out 3).trans rfl;have hcz36_4 : w34.cell? ⟨gb122,4,none⟩ = some (.string (⟨#[]⟩ : ByteArray)) := (blk_cell BK122.out 4).trans rfl;have hfz36_0 := blk_frozen BK122.out 0;have hfz36_1 := blk_frozen BK122.out 1;have hfz36_2 := blk_frozen BK122.out 2;have hfz36_3 := blk_frozen BK122.out 3;have hfz36_4 := blk_frozen BK122.out 4)|(go_at_call 59;(with_reducible refine (edit_file.calls k2 ((rd_T55 l0_3 x34_2).f0) ((rd_T55 l0_3 x34_2).f1) ((rd_T55 l0_3 x34_2).f2) ((rd_T55 l0_3 x34_2).f3) ((rd_T55 l0_3 x34_2).f4) t123 _ A33.out).mono ?_);rintro e w37 ⟨rfl,hb⟩;have n0_ := Aside0.mk (blk_below (g := gb115) (o := .cells #[.int .i64 a0_0,.int .i64 a0_1,.int .i64 a0_2,.slice (some ad121) l0_3.length c0_3,.slice A0_4 l0_4.length c0_4] 43 (0,0)) (by (with_reducible repeat (first|refine blk_drewN ?_ _|refine blk_drew ?_|refine blk_alloc ?_ _));refine blk_far ?_ NB115_122.out _;(with_reducible repeat (first|refine blk_drewN ?_ _|refine blk_drew ?_|refine blk_alloc ?_ _));refine blk_far ?_ NB115_122.out _;(with_reducible repeat (first|refine blk_drewN ?_ _|refine blk_drew ?_|refine blk_alloc ?_ _));refine blk_far ?_ NB115_122.out _;(with_reducible repeat (first|refine blk_drewN ?_ _|refine blk_drew ?_|refine blk_alloc ?_ _));refine blk_far ?_ NB115_122.out _;(with_reducible repeat (first|refine blk_drewN ?_ _|refine blk_drew ?_|refine blk_alloc ?_ _));refine blk_far ?_ NB115_122.out _;(with_reducible repeat (first|refine blk_drewN ?_ _|refine blk_drew ?_|refine blk_alloc ?_ _));exact BK115.out) hb);have n1_ := Aside0.mk (blk_below (g := gb122) (o := .cells #[.int .i64 ((rd_T55 l0_3 x34_2).f0),.int .i64 ((rd_T55 l0_3 x34_2).f1),.int .i64 ((rd_T55 l0_3 x34_2).f2),.string ((rd_T55 l0_3 x34_2).f3),.string ((rd_T55 l0_3 x34_2).f4)] 55 (0,0)) (by (with_reducible repeat (first|refine blk_drewN ?_ _|refine blk_drew ?_|refine blk_alloc ?_ _));refine blk_put (cs := #[.int .i64 ((rd_T55 l0_3 x34_2).f0),.int .i64 ((rd_T55 l0_3 x34_2).f1),.int .i64 ((rd_T55 l0_3 x34_2).f2),.string ((rd_T55 l0_3 x34_2).f3),.string (⟨#[]⟩ : ByteArray)]) ?_ 4 _ rfl;(with_reducible repeat (first|refine blk_drewN ?_ _|refine blk_drew ?_|refine blk_alloc ?_ _));refine blk_put (cs := #[.int .i64 ((rd_T55 l0_3 x34_2).f0),.int .i64 ((rd_T55 l0_3 x34_2).f1),.int .i64 ((rd_T55 l0_3 x34_2).f2),.string (⟨#[]⟩ : ByteArray),.string (⟨#[]⟩ : ByteArray)]) ?_ 3 _ rfl;(with_reducible repeat (first|refine blk_drewN ?_ _|refine blk_drew ?_|refine blk_alloc ?_ _));refine blk_put (cs := #[.int .i64 ((rd_T55 l0_3 x34_2).f0),.int .i64 ((rd_T55 l0_3 x34_2).f1),.int .i64 0,.string (⟨#[]⟩ : ByteArray),.string (⟨#[]⟩ : ByteArray)]) ?_ 2 _ rfl;(with_reducible repeat (first|refine blk_drewN ?_ _|refine blk_drew ?_|refine blk_alloc ?_ _));refine blk_put (cs := #[.int .i64 ((rd_T55 l0_3 x34_2).f0),.int .i64 0,.int .i64 0,.string (⟨#[]⟩ : ByteArray),.string (⟨#[]⟩ : ByteArray)]) ?_ 1 _ rfl;(with_reducible repeat (first|refine blk_drewN ?_ _|refine blk_drew ?_|refine blk_alloc ?_ _));refine blk_put (cs := #[.int .i64 0,.int .i64 0,.int .i64 0,.string (⟨#[]⟩ : ByteArray),.string (⟨#[]⟩ : ByteArray)]) ?_ 0 _ rfl;(with_reducible repeat (first|refine blk_drewN ?_ _|refine blk_drew ?_|refine blk_alloc ?_ _));exact BK122.out) hb);have n2_ := Aside0.mk (below_step (by repeat (first|(with_reducible first|exact HB.out|apply below_alloc|apply pw_below_drewN|apply below_drew1|refine below_set ?_ GE115.out|refine below_set ?_ GE122.out)|exact HB.out)) hb);clear BK115;clear BK122;clear HB;have BK115 := n0_;have BK122 := n1_;have HB := n2_;clear n0_ n1_ n2_;(try clear hb);(try clear hb2);(try clear hk);(try clear hi)))
         go_roundg k2
         case measure => have := HJ1.out; have := HK2.out; omega
         case rel => exact ⟨(t123),(wrap64 (x34_2 + 1)),(by first | rfl|(simp;done)|(simp [*];done)),(by first | rfl|(simp;done)|(simp [*];done)),H',⟨by have := HJ1.out;have := HK2.out;omega⟩,⟨by (with_reducible repeat (first|refine blk_drewN ?_ _|refine blk_drew ?_|refine blk_alloc ?_ _));exact BK115.out⟩,⟨by repeat (first|(with_reducible first|exact HB.out|apply below_alloc|apply pw_below_drewN|apply below_drew1|refine below_set ?_ GE115.out|refine below_set ?_ GE122.out)|exact HB.out)⟩⟩
        ·replace c32 := Bool.eq_false_iff.mpr c32
         subst c32
         have H1 : (edit_Check.l0 k2 false l0_3 (l0_3.length : Int) (wrap64 (x34_2 + 1))) = some r := by rw [if_neg (show ¬ (false = true) by decide)] at H; exact H
         clear H
         have H := H1
         clear H1
         have H' := Aside0.mk H
         clear H
         have p121 : 0 ≤ (x34_2 : Int) := of_decide_eq_true (by first|(with_reducible assumption) | assumption)
         have q121 : x34_2 < (l0_3.length : Int) := of_decide_eq_true (by first|(with_reducible assumption) | assumption)
         obtain ⟨ad121, e121, hx121_0, hx121_1, hx121_2, hx121_3, hx121_4⟩ := at_T55 HR0_3.out x34_2 p121 q121
         cases e121
         replace hx121_0 := (HB.out.cell (World.block_lt_of_cell? w _ hx121_0)).trans hx121_0
         replace hx121_1 := (HB.out.cell (World.block_lt_of_cell? w _ hx121_1)).trans hx121_1
         replace hx121_2 := (HB.out.cell (World.block_lt_of_cell? w _ hx121_2)).trans hx121_2
         replace hx121_3 := (HB.out.cell (World.block_lt_of_cell? w _ hx121_3)).trans hx121_3
         replace hx121_4 := (HB.out.cell (World.block_lt_of_cell? w _ hx121_4)).trans hx121_4
         replace p121 := eq_true p121
         replace q121 := eq_true q121
         go_wp2_with (first|((with_reducible refine gate_dst (N := 5) rfl ?_);(try (refine gate_guard (by rfl) ?_;dsimp only));refine box_event ?hg (N := 5) ?hd (cs := #[.int .i64 0,.int .i64 0,.int .i64 0,.string (⟨#[]⟩ : ByteArray),.string (⟨#[]⟩ : ByteArray)]) (t := 55) ?hr ?_;(case hd => rfl);(case hg => rfl);(case hr => first|(go_simp;done)|(go_simp;rfl));intro gb122 hg w38 hbox hb;have n0_ := Aside0.mk (blk_below (g := gb115) (o := .cells #[.int .i64 a0_0,.int .i64 a0_1,.int .i64 a0_2,.slice (some ad121) l0_3.length c0_3,.slice A0_4 l0_4.length c0_4] 43 (0,0)) (by (with_reducible repeat (first|refine blk_drewN ?_ _|refine blk_drew ?_|refine blk_alloc ?_ _));exact BK115.out) hb);have n1_ := Aside0.mk (below_step (by repeat (first|(with_reducible first|exact HB.out|apply below_alloc|apply pw_below_drewN|apply below_drew1|refine below_set ?_ GE115.out)|exact HB.out)) hb);have n2_ := Aside0.mk (hbox);have n3_ := Aside0.mk ((by rw [hg];exact (below_size (by repeat (first|(with_reducible first|exact HB.out|apply below_alloc|apply pw_below_drewN|apply below_drew1|refine below_set ?_ GE115.out)|exact HB.out))) : w.heap.size ≤ gb122));have n4_ := Aside0.mk ((by rw [hg];exact (below_size (by repeat (first|(with_reducible first|exact HB.out|apply below_alloc|apply pw_below_drewN|apply below_drew1|refine below_set ?_ GE115.out)|exact HB.out))) : w.heap.size ≤ gb122));have n5_ := Aside0.mk ((by rw [hg];exact Nat.ne_of_lt (blk_lt (g := gb115) (o := .cells #[.int .i64 a0_0,.int .i64 a0_1,.int .i64 a0_2,.slice (some ad121) l0_3.length c0_3,.slice A0_4 l0_4.length c0_4] 43 (0,0)) (by (with_reducible repeat (first|refine blk_drewN ?_ _|refine blk_drew ?_|refine blk_alloc ?_ _));exact BK115.out)) : gb115 ≠ gb122));have n6_ := Aside0.mk ((by rw [hg];exact Nat.ne_of_gt (blk_lt (g := gb115) (o := .cells #[.int .i64 a0_0,.int .i64 a0_1,.int .i64 a0_2,.slice (some ad121) l0_3.length c0_3,.slice A0_4 l0_4.length c0_4] 43 (0,0)) (by (with_reducible repeat (first|refine blk_drewN ?_ _|refine blk_drew ?_|refine blk_alloc ?_ _));exact BK115.out)) : gb122 ≠ gb115));clear BK115;clear HB;have BK115 := n0_;have HB := n1_;have BK122 := n2_;have GW122 := n3_;have GE122 := n4_;have NB115_122 := n5_;have NB122_115 := n6_;clear n0_ n1_ n2_ n3_ n4_ n5_ n6_;clear hb hbox hg;have hnb39 := NB122_115.out;have hnc39 := NB115_122.out;have hcz40_0 : w38.cell? ⟨gb122,0,none⟩ = some (.int .i64 0) := (blk_cell BK122.out 0).trans rfl;have hcz40_1 : w38.cell? ⟨gb122,1,none⟩ = some (.int .i64 0) := (blk_cell BK122.out 1).trans rfl;have hcz40_2 : w38.cell? ⟨gb122,2,none⟩ = some (.int .i64 0) := (blk_cell BK122.out 2).trans rfl;have hcz40_3 : w38.cell? ⟨gb122,3,none⟩ = some (.string (⟨#[]⟩ : ByteArray)) := (blk_cell BK122.out 3).trans rfl;have hcz40_4 : w38.cell? ⟨gb122,4,none⟩ = some (.string (⟨#[]⟩ : ByteArray)) := (blk_cell BK122.out 4).trans rfl;have hfz40_0 := blk_frozen BK122.out 0;have hfz40_1 := blk_frozen BK122.out 1;have hfz40_2 := blk_frozen BK122.out 2;have hfz40_3 := blk_frozen BK122.out 3;have hfz40_4 := blk_frozen BK122.out 4))
         go_roundg k2
         case measure => have := HJ1.out; have := HK2.out; omega
         case rel => exact ⟨(false),(wrap64 (x34_2 + 1)),(by first | rfl|(simp;done)|(simp [*];done)),(by first | rfl|(simp;done)|(simp [*];done)),H',⟨by have := HJ1.out;have := HK2.out;omega⟩,⟨by (with_reducible repeat (first|refine blk_drewN ?_ _|refine blk_drew ?_|refine blk_alloc ?_ _));refine blk_far ?_ NB115_122.out _;(with_reducible repeat (first|refine blk_drewN ?_ _|refine blk_drew ?_|refine blk_alloc ?_ _));refine blk_far ?_ NB115_122.out _;(with_reducible repeat (first|refine blk_drewN ?_ _|refine blk_drew ?_|refine blk_alloc ?_ _));refine blk_far ?_ NB115_122.out _;(with_reducible repeat (first|refine blk_drewN ?_ _|refine blk_drew ?_|refine blk_alloc ?_ _));refine blk_far ?_ NB115_122.out _;(with_reducible repeat (first|refine blk_drewN ?_ _|refine blk_drew ?_|refine blk_alloc ?_ _));refine blk_far ?_ NB115_122.out _;(with_reducible repeat (first|refine blk_drewN ?_ _|refine blk_drew ?_|refine blk_alloc ?_ _));exact BK115.out⟩,⟨by repeat (first|(with_reducible first|exact HB.out|apply below_alloc|apply pw_below_drewN|apply below_drew1|refine below_set ?_ GE115.out|refine below_set ?_ GE122.out)|exact HB.out)⟩⟩
       ·rw [if_neg c31] at H
        exact absurd H (by simp)
      ·rw [if_neg c30] at H
       exact absurd H (by simp)
     ·rw [if_neg c29] at H
      have c29b0 : decide (x34_2 < (l0_3.length : Int)) = false := decide_eq_false c29
      clear c29
      by_cases c41 : x3_2 = true
      ·subst c41
       have H1 : (some 0) = some r := by rw [if_pos rfl] at H; exact H
       clear H
       have H := H1
       clear H1
       obtain rfl := Option.some.inj H
       simp only [Option.some.injEq, Prod.mk.injEq] at H
       obtain ⟨rfl⟩ := H
       go_wp2
       go_ret
       exact ⟨by first | rfl|(simp [errW_none,errW_some] <;> rfl)|(simp [*,errW_none,errW_some] <;> rfl),by repeat (first|(with_reducible first|exact HB.out|apply below_alloc|apply pw_below_drewN|apply below_drew1|refine below_set ?_ GE115.out)|exact HB.out)⟩
      ·replace c41 := Bool.eq_false_iff.mpr c41
       subst c41
       have H1 : (some 12) = some r := by rw [if_neg (show ¬ (false = true) by decide)] at H; exact H
       clear H
       have H := H1
       clear H1
       obtain rfl := Option.some.inj H
       simp only [Option.some.injEq, Prod.mk.injEq] at H
       obtain ⟨rfl⟩ := H
       go_wp2
       go_ret
       exact ⟨by first | rfl|(simp [errW_none,errW_some] <;> rfl)|(simp [*,errW_none,errW_some] <;> rfl),by repeat (first|(with_reducible first|exact HB.out|apply below_alloc|apply pw_below_drewN|apply below_drew1|refine below_set ?_ GE115.out)|exact HB.out)⟩

end Go.Proofs.Ytoglanahjlfihaa.MEdt
