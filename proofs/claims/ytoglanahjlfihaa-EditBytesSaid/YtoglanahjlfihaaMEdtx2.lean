-- Written by a program of this session for this claim (out of the translation's print); Lean checks it.
import Derived.Test.YtoglanahjlfihaaMEdtx0
import Derived.Test.YtoglanahjlfihaaMEdtx1
namespace Go.Proofs.Ytoglanahjlfihaa.MEdt
open Go.RowKit Go.Proofs.YtoglanahjlfihaaW.PrintWords Go.Proofs.YtoglanahjlfihaaW.PrintLast Go.Proofs.YtoglanahjlfihaaW.PrintMore
attribute [local go_sem] max2_int min2_int max_two min_two max_three min_three max_four min_four   -- for this text's walks alone
set_option linter.unusedVariables false
set_option linter.unusedSimpArgs false

/-! ### varint_Put: function 56 -/
def varint_Put.l0 : Nat → Int → List Int → Option (List Int)
 | 0, _, _ => none
 | k + 1,x0,x3 => if x0 > 127 then (if x3.length < 140737488355328 then (varint_Put.l0 k (x0 / 128) (x3 ++ [Go.bits .or .u8 ((x0) % 256) 128])) else (none)) else (if x3.length < 140737488355328 then (some (x3 ++ [(x0) % 256])) else (none))
def varint_Put.f (k : Nat) (a0 : Int) : Option (List Int) := varint_Put.l0 k a0 ([] : List Int)
theorem varint_Put.mono_l : ∀ k, (∀ y0 y1, LeO (varint_Put.l0 k y0 y1) (varint_Put.l0 (k + 1) y0 y1))
 | 0 => fun _ _ r h => by simp [varint_Put.l0] at h
 | k + 1 => by
  have ih0 := varint_Put.mono_l k
  ·intro y0 y1
   unfold varint_Put.l0
   repeat' first
  |(with_reducible exact ih0 _ _)
  |(with_reducible exact LeO.refl _)
  |(with_reducible exact LeO.none _)
  |(with_reducible refine LeO.ite ?_ ?_)
  |(with_reducible refine LeO.bind ?_ (fun _ => ?_))
  |exact ih0 _ _
  |exact LeO.none _
  |refine LeO.ite ?_ ?_
  |refine LeO.bind ?_ (fun _ => ?_)
theorem varint_Put.mono : ∀ a0 k, LeO (varint_Put.f k a0) (varint_Put.f (k + 1) a0) := by
 intro a0 k
 have ih0 := varint_Put.mono_l k
 unfold varint_Put.f
 repeat' first
  |(with_reducible exact ih0 _ _)
  |(with_reducible exact LeO.refl _)
  |(with_reducible exact LeO.none _)
  |(with_reducible refine LeO.ite ?_ ?_)
  |(with_reducible refine LeO.bind ?_ (fun _ => ?_))
  |exact ih0 _ _
  |exact LeO.none _
  |refine LeO.ite ?_ ?_
  |refine LeO.bind ?_ (fun _ => ?_)
set_option maxHeartbeats 80000000 in
set_option maxRecDepth 100000 in
theorem varint_Put.calls (k : Nat) (a0 : Int) (r : List Int) (w : World) (h : varint_Put.f k a0 = some r) :
  Calls Try.prog 56 #[.int .u64 a0] w fun e w' => ∃ v0_ : Value, e = .returned (v0_) ∧ Kd.R (Kd.int .u8) 5 w' w.heap.size (fun _ => True) v0_ r ∧ Below w.heap.size w w' := by
 have HB := Aside0.mk (Below.refl w.heap.size w)
 have H : (varint_Put.l0 k a0 ([] : List Int)) = some r := h
 clear h
 have H' := Aside0.mk H
 clear H
 go_enter Try.func56, Try.ntmps56
 go_wp2
 go_loopg [0,3] k (fun kq v0 v3 w' => ∃ (x0_1 : Int) (x3_1 : List Int),v0 = .int .u64 x0_1 ∧ Aside0 (varint_Put.l0 kq x0_1 x3_1 = some r) ∧ Aside0 (kq ≤ k) ∧ Aside0 (Kd.R (Kd.int .u8) 5 w' w.heap.size (fun _ => True) v3 x3_1) ∧ Aside0 (Below w.heap.size w w'))
 case atStart => exact ⟨(a0),(([] : List Int)),(by first | rfl|(simp;done)|(simp [*];done)),H',⟨Nat.le_refl _⟩,⟨by first|exact Kd.R_nil _ _ _ _ _|exact Kd.N_nil _ _ _ _ _|exact Kd.V_nil _ _ _ _ _|exact Kd.Q_nil _ _ _ _ _|exact Kd.S_nil _ _ _ _ _⟩,⟨by repeat (first|(with_reducible first|exact HB.out|apply below_alloc|apply pw_below_drewN|apply below_drew1)|exact HB.out)⟩⟩
 case round =>
  clear H'
  obtain ⟨x0_1, x3_1, rfl, HA, HK1, HO_3, HB⟩ := hrel
  cases gk with
  | zero => exact absurd HA.out (by simp [varint_Put.l0])
  | succ k1 =>
   have H := HA.out
   clear HA
   simp only [varint_Put.l0] at H
   by_cases c2 : x0_1 > 127
   ·rw [if_pos c2] at H
    have c2b0 : decide (127 < x0_1) = true := decide_eq_true c2
    clear c2
    by_cases c3 : x3_1.length < 140737488355328
    ·rw [if_pos c3] at H
     have LMc3 := Aside0.mk c3
     clear c3
     obtain ⟨y124, hy124⟩ : ∃ y_ : List Int, y_ = (x3_1 ++ [Go.bits .or .u8 ((x0_1) % 256) 128]) := ⟨_, rfl⟩
     replace H : (varint_Put.l0 k1 (x0_1 / 128) y124) = some r := by first|(rw [hy124];with_reducible exact H)|(have H2_ := (Option.bind_some _ _).symm.trans H;rw [hy124];with_reducible exact H2_)|(have H2_ := (Option.bind_some _ _).symm.trans H;with_reducible exact H2_) | with_reducible exact H|(rw [hy124];exact H)|exact H
     have Ny124 := Aside0.mk hy124
     clear hy124
     have H' := Aside0.mk H
     clear H
     go_wp2_with (first|((with_reducible refine gate_builtin (b := .append) (xs := #[.tmp 6,.tmp 10]) rfl ?_);at_builtin;refine Kd.R_append (Kd.int .u8) (w0 := w) w.heap.size rfl (.tmp 6) (.tmp 10) 28 5 (.int .u8 0) 1 rfl Try.underlying28 info5 rfl (by decide) (by omega) u3 x3_1 (Go.bits .or .u8 ((x0_1) % 256) 128) [.int .u8 (Go.bits .or .u8 ((x0_1) % 256) 128)] (fun _ => True) (fun _ => False) rfl rfl ?aP (fun _ hk => hk.elim) ?aF ?aO ?aB ?aS ?aL ?_;(case aP => exact rfl);(case aB => exact (by repeat (first|(with_reducible first|exact HB.out|apply below_alloc|apply pw_below_drewN|apply below_drew1)|exact HB.out)));(case aF => exact (fun _ _ => trivial));(case aO => exact (by (with_reducible repeat (first|apply Kd.R_alloc|apply Kd.R_drewN|apply Kd.R_drew));exact HO_3.out));(case aS => exact (below_size (by repeat (first|(with_reducible first|exact HB.out|apply below_alloc|apply pw_below_drewN|apply below_drew1)|exact HB.out))));(case aL => have := LMc3.out;omega);intro v125 w4 ho hb hg hat;rw [← Ny124.out] at ho;have n0_ := Aside0.mk (hb);have n1_ := Aside0.mk (ho);clear HB;clear HO_3;have HB := n0_;have HO126 := n1_;clear n0_ n1_;clear ho hb hg hat))
     go_roundg k1
     case measure => have := HK1.out; omega
     case rel => exact ⟨(x0_1 / 128),(y124),(by first | rfl|(simp;done)|(simp [*];done)),H',⟨by have := HK1.out;omega⟩,⟨by (with_reducible repeat (first|apply Kd.R_alloc|apply Kd.R_drewN|apply Kd.R_drew));exact HO126.out⟩,⟨by repeat (first|(with_reducible first|exact HB.out|apply below_alloc|apply pw_below_drewN|apply below_drew1)|exact HB.out)⟩⟩
    ·rw [if_neg c3] at H
     exact absurd H (by simp)
   ·rw [if_neg c2] at H
    have c2b0 : decide (127 < x0_1) = false := decide_eq_false c2
    clear c2
    by_cases c5 : x3_1.length < 140737488355328
    ·rw [if_pos c5] at H
     have LMc5 := Aside0.mk c5
     clear c5
     obtain ⟨y127, hy127⟩ : ∃ y_ : List Int, y_ = (x3_1 ++ [(x0_1) % 256]) := ⟨_, rfl⟩
     replace H : (some y127) = some r := by first|(rw [hy127];with_reducible exact H)|(have H2_ := (Option.bind_some _ _).symm.trans H;rw [hy127];with_reducible exact H2_)|(have H2_ := (Option.bind_some _ _).symm.trans H;with_reducible exact H2_) | with_reducible exact H|(rw [hy127];exact H)|exact H
     have Ny127 := Aside0.mk hy127
     clear hy127
     obtain rfl := Option.some.inj H
     simp only [Option.some.injEq, Prod.mk.injEq] at H
     obtain ⟨rfl⟩ := H
     go_wp2_with (first|((with_reducible refine gate_builtin (b := .append) (xs := #[.tmp 14,.tmp 17]) rfl ?_);at_builtin;refine Kd.R_append (Kd.int .u8) (w0 := w) w.heap.size rfl (.tmp 14) (.tmp 17) 28 5 (.int .u8 0) 1 rfl Try.underlying28 info5 rfl (by decide) (by omega) u3 x3_1 ((x0_1) % 256) [.int .u8 ((x0_1) % 256)] (fun _ => True) (fun _ => False) rfl rfl ?aP (fun _ hk => hk.elim) ?aF ?aO ?aB ?aS ?aL ?_;(case aP => exact rfl);(case aB => exact (by repeat (first|(with_reducible first|exact HB.out|apply below_alloc|apply pw_below_drewN|apply below_drew1)|exact HB.out)));(case aF => exact (fun _ _ => trivial));(case aO => exact (by (with_reducible repeat (first|apply Kd.R_alloc|apply Kd.R_drewN|apply Kd.R_drew));exact HO_3.out));(case aS => exact (below_size (by repeat (first|(with_reducible first|exact HB.out|apply below_alloc|apply pw_below_drewN|apply below_drew1)|exact HB.out))));(case aL => have := LMc5.out;omega);intro v128 w6 ho hb hg hat;rw [← Ny127.out] at ho;have n0_ := Aside0.mk (hb);have n1_ := Aside0.mk (ho);clear HB;clear HO_3;have HB := n0_;have HO129 := n1_;clear n0_ n1_;clear ho hb hg hat))
     go_ret
     exact ⟨_,by first | rfl|(simp [errW_none,errW_some] <;> rfl)|(simp [*,errW_none,errW_some] <;> rfl),by (with_reducible repeat (first|apply Kd.R_alloc|apply Kd.R_drewN|apply Kd.R_drew));exact HO129.out,by repeat (first|(with_reducible first|exact HB.out|apply below_alloc|apply pw_below_drewN|apply below_drew1)|exact HB.out)⟩
    ·rw [if_neg c5] at H
     exact absurd H (by simp)

/-! ### varint_Text: function 57 -/
def varint_Text.f (k : Nat) (a0 : ByteArray) : Option (List Int) := (varint_Put.f k (IntKind.u64.wrap ((a0.size : Int)))).bind fun t130 => (if t130.length + a0.size < 140737488355328 then (some (t130 ++ bytesOf a0)) else (none))
theorem varint_Text.mono : ∀ a0 k, LeO (varint_Text.f k a0) (varint_Text.f (k + 1) a0) := by
 intro a0 k
 unfold varint_Text.f
 repeat' first
  |(with_reducible exact varint_Put.mono _ _)
  |(with_reducible exact LeO.refl _)
  |(with_reducible exact LeO.none _)
  |(with_reducible refine LeO.ite ?_ ?_)
  |(with_reducible refine LeO.bind ?_ (fun _ => ?_))
  |exact varint_Put.mono _ _
  |exact LeO.none _
  |refine LeO.ite ?_ ?_
  |refine LeO.bind ?_ (fun _ => ?_)
set_option maxHeartbeats 80000000 in
set_option maxRecDepth 100000 in
theorem varint_Text.calls (k : Nat) (a0 : ByteArray) (r : List Int) (w : World) (h : varint_Text.f k a0 = some r) :
  Calls Try.prog 57 #[.string a0] w fun e w' => ∃ v0_ : Value, e = .returned (v0_) ∧ Kd.R (Kd.int .u8) 5 w' w.heap.size (fun _ => True) v0_ r ∧ Below w.heap.size w w' := by
 have HB := Aside0.mk (Below.refl w.heap.size w)
 have H : ((varint_Put.f k (IntKind.u64.wrap ((a0.size : Int)))).bind fun t130 => (if t130.length + a0.size < 140737488355328 then (some (t130 ++ bytesOf a0)) else (none))) = some r := h
 clear h
 replace H := Option.bind_eq_some_iff.mp H
 obtain ⟨t130, A20, H⟩ := H
 replace H : (if t130.length + a0.size < 140737488355328 then (some (t130 ++ bytesOf a0)) else (none)) = some r := H
 have A2 := Aside0.mk A20
 clear A20
 by_cases c3 : t130.length + a0.size < 140737488355328
 ·rw [if_pos c3] at H
  have LMc3 := Aside0.mk c3
  clear c3
  obtain ⟨y133, hy133⟩ : ∃ y_ : List Int, y_ = (t130 ++ bytesOf a0) := ⟨_, rfl⟩
  replace H : (some y133) = some r := by first|(rw [hy133];with_reducible exact H)|(have H2_ := (Option.bind_some _ _).symm.trans H;rw [hy133];with_reducible exact H2_)|(have H2_ := (Option.bind_some _ _).symm.trans H;with_reducible exact H2_) | with_reducible exact H|(rw [hy133];exact H)|exact H
  have Ny133 := Aside0.mk hy133
  clear hy133
  obtain rfl := Option.some.inj H
  simp only [Option.some.injEq, Prod.mk.injEq] at H
  obtain ⟨rfl⟩ := H
  go_enter Try.func57, Try.ntmps57
  go_wp2_with (first|((with_reducible refine gate_callee (f := 56) rfl ?_);refine goesL_ (some 6) rfl rfl Try.func56 (by kernel_rfl) rfl #[.int .u64 (IntKind.u64.wrap ((a0.size : Int)))] rfl (by (try simp only [List.map_toArray,List.map_cons,List.map_nil]);first | done | rfl|(simp only [List.length_drop,List.length_take];rfl)) ?_;(with_reducible refine (varint_Put.calls k (IntKind.u64.wrap ((a0.size : Int))) t130 _ A2.out).mono ?_);rintro e w4 ⟨v131,rfl,ho0,hb⟩;refine ⟨_,rfl,?_⟩;have n0_ := Aside0.mk (Kd.R_lower ho0 (below_size (by repeat (first|(with_reducible first|exact HB.out|apply below_alloc|apply pw_below_drewN|apply below_drew1)|exact HB.out))));have n1_ := Aside0.mk (below_step (by repeat (first|(with_reducible first|exact HB.out|apply below_alloc|apply pw_below_drewN|apply below_drew1)|exact HB.out)) hb);clear HB;have HO132 := n0_;have HB := n1_;clear n0_ n1_;(try clear hb);(try clear hb2);(try clear hk);(try clear hi);(try clear ho0))|(at_builtin;refine print_append_str (w0 := w) w.heap.size rfl (.tmp 6) _ 28 9 5 rfl Try.underlying28 Try.underlying9 info5 v131 t130 a0 rfl rfl ?aO ?aB ?aS ?aL ?_;(case aB => exact (by repeat (first|(with_reducible first|exact HB.out|apply below_alloc|apply pw_below_drewN|apply below_drew1)|exact HB.out)));(case aO => exact (Kd.own_of_R (by (with_reducible repeat (first|apply Kd.R_alloc|apply Kd.R_drewN|apply Kd.R_drew));exact HO132.out)));(case aS => exact (below_size (by repeat (first|(with_reducible first|exact HB.out|apply below_alloc|apply pw_below_drewN|apply below_drew1)|exact HB.out))));(case aL => have := LMc3.out;omega);intro v134 w5 ho0 hb hg;have ho := Kd.R_of_own (h1 := fun _ => rfl) (ok := fun _ => True) ho0 (fun _ _ => trivial);clear ho0;have hat := True.intro;rw [← Ny133.out] at ho;change Kd.R (Kd.int .u8) 5 w5 w.heap.size (fun _ => True) v134 y133 at ho;have n0_ := Aside0.mk (hb);have n1_ := Aside0.mk (ho);clear HB;clear HO132;have HB := n0_;have HO135 := n1_;clear n0_ n1_;clear ho hb hg hat))
  go_ret
  exact ⟨_,by first | rfl|(simp [errW_none,errW_some] <;> rfl)|(simp [*,errW_none,errW_some] <;> rfl),by (with_reducible repeat (first|apply Kd.R_alloc|apply Kd.R_drewN|apply Kd.R_drew));exact HO135.out,by repeat (first|(with_reducible first|exact HB.out|apply below_alloc|apply pw_below_drewN|apply below_drew1)|exact HB.out)⟩
 ·rw [if_neg c3] at H
  exact absurd H (by simp)

/-! ### edit_Encode: function 25, by hand, with its closure (type numbers 2, 5, 28, 40, 41, 43, 55 are seat c's) -/
/-- A variable in memory that holds a row of bytes of the call's own. -/
def RowIn (w0 w : World) (gb : Nat) (b : List Int) : Prop := w0.heap.size ≤ gb ∧ Below w0.heap.size w0 w ∧ ∃ v,w.heap[gb]? = some (.cells #[v] 28 (0,0)) ∧ Kd.R (Kd.int .u8) 5 w w0.heap.size (fun k => k ≠ gb) v b
set_option maxHeartbeats 4000000 in
theorem edit_Encode1.calls (k : Nat) (gb : Nat) (b : List Int) (n : Int) (p : List Int) (w0 w : World) (hI : RowIn w0 w gb b) (hp : varint_Put.f k (IntKind.u64.wrap n) = some p) (hl : b.length + p.length < 140737488355328) :
  Calls Try.prog 55 (#[.int .i64 n] ++ #[.pointer (some ⟨gb,0,none⟩)]) w fun e w' => e = .returned (.tuple #[]) ∧ RowIn w0 w' gb (b ++ p) ∧ w.heap.size ≤ w'.heap.size ∧ ∀ (i : Nat) (cs : Array Value) (t : TypeId),i ≠ gb → t ≠ 5 → w.heap[i]? = some (.cells cs t (0,0)) → w'.heap[i]? = some (.cells cs t (0,0)) := by
 obtain ⟨hgb, hB, v, hC, hO⟩ := hI
 have HO := Aside0.mk hO
 have HB := Aside0.mk hB
 have HP := Aside0.mk hp
 have hc := (blk_cell hC 0).trans rfl
 have hf := blk_frozen hC 0
 clear hO hB hp
 go_enter Try.func55, Try.ntmps55
 go_wp2
 go_region_law (first
 |(go_simp;go_at_call 56;(with_reducible refine (varint_Put.calls k (IntKind.u64.wrap n) p _ HP.out).mono ?_);rintro e w' ⟨v0,rfl,ho,hb⟩;obtain ⟨A1,c1,e1⟩ := Kd.R_slice ho;subst e1;have HB2 := Aside0.mk (below_step (below_drew1 HB.out) hb);have HO2 := Aside0.mk (Kd.R_below (Kd.R_drew HO.out) hb);have HP2 := Aside0.mk (Kd.R_reads' ho).2.2;have HC2 := Aside0.mk ((hb.block gb (blk_lt hC)).trans hC);have HS2 := Aside0.mk hb;have hc2 := (blk_cell HC2.out 0).trans rfl;have hf2 := blk_frozen HC2.out 0;clear ho hb)
 |(refine Kd.R_append_rows_step (Kd.int .u8) (w0 := w0) w0.heap.size (by rfl) (.tmp 3) (.tmp 6) 28 5 (.int .u8 0) 1 rfl Try.underlying28 info5 rfl (by decide) (by omega) v b p _ _ _ (fun k => k ≠ gb) (fun _ => False) (by rfl) (by rfl) ?aO ?aR (fun _ _ h => h) (fun _ h => h.elim) ?aF ?aB ?aS ?aL ?_;(case aO => exact HO2.out);(case aR => exact HP2.out);(case aF => exact fun i hi => by have := blk_lt HC2.out;omega);(case aB => exact HB2.out);(case aS => exact below_size HB2.out);(case aL => omega);intro v1 w1 ho1 hb1 hg hat;obtain ⟨A3,c3,e3⟩ := Kd.R_slice ho1;subst e3;have HO3 := Aside0.mk ho1;have HB3 := Aside0.mk hb1;have HG3 := Aside0.mk hg;have HC3 := Aside0.mk ((hg.block gb (blk_lt HC2.out) (fun z => HO2.out.1 gb z.symm rfl)).trans HC2.out);have hc3 := (blk_cell HC3.out 0).trans rfl;have hf3 := blk_frozen HC3.out 0;clear ho1 hb1 hg hat))
 all_goals
  go_end0
  refine ⟨rfl, ⟨hgb, below_set HB3.out hgb, _, blk_set HC3.out 0 _, ?_⟩, ?_, fun i cs t hi ht hw => ?_⟩
  ·rw [← List.length_append]
   exact Kd.R_far (p := ⟨gb, 0, none⟩) HO3.out (fun _ hk => hk) _
  ·have h1 := HS2.out.size
   have h2 := HG3.out.size
   simp only [World.setCell, Array.size_modify]
   exact Nat.le_trans h1 h2
  ·have h1 := (HS2.out.block i (blk_lt hw)).trans hw
   have hne : some i ≠ v.ownBlock := by
    intro e
    obtain ⟨cells, hcell⟩ := own_typed (Kd.own_of_R (enc := Value.int .u8) (h1 := fun _ => rfl) HO2.out) i e.symm
    rw [h1] at hcell
    injection hcell with hcell
    injection hcell with _ ht2
    exact ht ht2
   exact (Below.heap_setCell w1 _ _ i hi).trans ((HG3.out.block i (blk_lt h1) hne).trans h1)
def putAll (k : Nat) : List Int → List Int → Option (List Int)
 | [], b => some b
 | n :: t, b => (varint_Put.f k (IntKind.u64.wrap n)).bind fun p => if b.length + p.length < 140737488355328 then putAll k t (b ++ p) else none
def putFiles (k : Nat) : List S55 → List Int → Option (List Int)
 | [], b => some b
 | f :: t,b => (putAll k [f.f0,f.f1,f.f2] b).bind fun b1 => (varint_Text.f k f.f3).bind fun s1 => (varint_Text.f k f.f4).bind fun s2 => if b1.length + s1.length + s2.length < 140737488355328 then putFiles k t (b1 ++ s1 ++ s2) else none
def edit_Encode.f (k : Nat) (a0 a1 a2 : Int) (l3 : List S55) (l4 : List Int) : Option (List Int × Int) :=
 (edit_Check.f k a0 a1 a2 l3 l4).bind fun c => if c = 0 then (putAll k [a0,a1,a2,(l3.length : Int)] []).bind fun b1 => (putFiles k l3 b1).bind fun b2 => (putAll k [(l4.length : Int)] b2).bind fun b3 => (putAll k l4 b3).bind fun b4 => some (b4,0) else some ([],c)
theorem drop_getD (l : List Int) (j : Nat) (h : j < l.length) : l.drop j = l.getD j 0 :: l.drop (j + 1) := by
 rw [List.drop_eq_getElem_cons h, List.getD_eq_getElem?_getD, List.getElem?_eq_getElem h]; rfl
theorem map_get (l : List Int) (j : Nat) (h : j < l.length) : (l.map (Value.int .i64)).toArray[j]? = some (Value.int .i64 (l.getD j 0)) := by
 rw [List.getElem?_toArray, List.getElem?_map, List.getD_eq_getElem?_getD, List.getElem?_eq_getElem h]; rfl
theorem alloc_new_ (W : World) (o : Obj) (g : Nat) (h : g = W.heap.size) : (W.alloc o).heap[g]? = some o := by subst h; exact Array.getElem?_push_size
theorem grown_other {W w1 : World} {base : Nat} {ok : Nat → Prop} {v : Value} {b : List Int} {i t : Nat} {cs : Array Value} (hg : W.grownBy w1 v.ownBlock) (hO : Kd.R (Kd.int .u8) 5 W base ok v b) (hw : W.heap[i]? = some (.cells cs t (0,0))) (ht : t ≠ 5) : w1.heap[i]? = some (.cells cs t (0,0)) := by
 refine (hg.block i (blk_lt hw) ?_).trans hw
 intro e
 obtain ⟨cells, hcell⟩ := own_typed (Kd.own_of_R (enc := Value.int .u8) (h1 := fun _ => rfl) hO) i e.symm
 rw [hw] at hcell
 injection hcell with hcell
 injection hcell with _ ht2
 exact ht ht2
theorem RowIn.below {w0 w w' : World} {gb : Nat} {b : List Int} (h : RowIn w0 w gb b) (hb : Below w.heap.size w w') : RowIn w0 w' gb b := by
 obtain ⟨h1, h2, v, h3, h4⟩ := h
 exact ⟨h1, below_step h2 hb, v, (hb.block gb (blk_lt h3)).trans h3, Kd.R_below h4 hb⟩
set_option maxHeartbeats 8000000 in
theorem edit_Encode.calls (k : Nat) (a0 a1 a2 : Int) (A3 : Option Addr) (c3 : Nat) (l3 : List S55) (A4 : Option Addr) (c4 : Nat) (l4 : List Int) (r1 : List Int) (r2 : Int) (w : World) (hr3 : Kd.C k55 w A3 l3.length l3) (hc3 : l3.length ≤ c3) (hr4 : Kd.C (Kd.int .i64) w A4 l4.length l4) (hc4 : l4.length ≤ c4) (h : edit_Encode.f k a0 a1 a2 l3 l4 = some (r1,r2)) :
  Calls Try.prog 25 #[.agg #[.int .i64 a0,.int .i64 a1,.int .i64 a2,.slice A3 l3.length c3,.slice A4 l4.length c4]] w fun e w' => ∃ v0_ : Value,e = .returned (.tuple #[v0_,.int .i64 r2]) ∧ Kd.R (Kd.int .u8) 5 w' w.heap.size (fun _ => True) v0_ r1 ∧ Below w.heap.size w w' := by
 have HR3 := Aside0.mk hr3
 have HR4 := Aside0.mk hr4
 clear hr3 hr4
 unfold edit_Encode.f at h
 obtain ⟨c, hchk, h⟩ := Option.bind_eq_some_iff.mp h
 have HK := Aside0.mk hchk
 clear hchk
 by_cases c0 : c = 0
 ·rw [if_pos c0] at h
  subst c0
  obtain ⟨b1, h1, h⟩ := Option.bind_eq_some_iff.mp h
  obtain ⟨b2, h2, h⟩ := Option.bind_eq_some_iff.mp h
  obtain ⟨b3, h3, h⟩ := Option.bind_eq_some_iff.mp h
  obtain ⟨b4, h4, h⟩ := Option.bind_eq_some_iff.mp h
  simp only [Option.some.injEq, Prod.mk.injEq] at h
  obtain ⟨rfl, rfl⟩ := h
  have H1 := Aside0.mk h1
  have H2 := Aside0.mk h2
  have H3 := Aside0.mk h3
  have H4 := Aside0.mk h4
  clear h1 h2 h3 h4
  obtain ⟨gE, hgE⟩ : ∃ gE, Aside0 (gE = w.heap.size) := ⟨_, ⟨rfl⟩⟩
  go_enter Try.func25, Try.ntmps25
  go_wp2_with (first|(go_at_call 27;(with_reducible refine (edit_Check.calls k a0 a1 a2 A3 c3 l3 A4 c4 l4 0 _ (Kd.C_alloc HR3.out _) hc3 (Kd.C_alloc HR4.out _) hc4 HK.out).mono ?_);rintro e w2 ⟨rfl,hb⟩;have HB := Aside0.mk (below_step (below_alloc (Below.refl _ _) _) hb);have HS := Aside0.mk hb;clear hb;have HE := Aside0.mk ((HS.out.block w.heap.size (by simp)).trans Array.getElem?_push_size);have HE1 := Aside0.mk ((Below.heap_alloc w2 (Obj.cells #[Value.slice none 0 0] 28) w.heap.size (blk_lt HE.out)).trans HE.out);have he0 := (blk_cell HE1.out 0).trans rfl;have he1 := (blk_cell HE1.out 1).trans rfl;have he2 := (blk_cell HE1.out 2).trans rfl;have he3 := (blk_cell HE1.out 3).trans rfl))
  have hsz2 : w.heap.size + 1 ≤ w2.heap.size := by have h_ := HS.out.size; simpa using h_
  have HI : Aside0 (RowIn w ((w2.alloc (Obj.cells #[Value.slice none 0 0] 28)).alloc (Obj.cells #[Value.int IntKind.i64 a0,Value.int IntKind.i64 a1,Value.int IntKind.i64 a2,Value.int IntKind.i64 ↑l3.length] 2)) w2.heap.size []) := ⟨by omega,below_alloc (below_alloc HB.out _) _,_,(Below.heap_alloc (w2.alloc _) _ w2.heap.size (by simp)).trans Array.getElem?_push_size,Kd.R_nil _ _ _ _ _⟩
  have HL : Aside0 (((w2.alloc (Obj.cells #[Value.slice none 0 0] 28)).alloc (Obj.cells #[Value.int IntKind.i64 a0,Value.int IntKind.i64 a1,Value.int IntKind.i64 a2,Value.int IntKind.i64 ↑l3.length] 2)).heap[w2.heap.size + 1]? = some (.cells (([a0,a1,a2,(l3.length : Int)] : List Int).map (Value.int .i64)).toArray 2 (0,0))) := ⟨alloc_new_ _ _ _ (by simp)⟩
  have HE2 := Aside0.mk ((Below.heap_alloc (w2.alloc (Obj.cells #[Value.slice none 0 0] 28)) (Obj.cells #[Value.int IntKind.i64 a0,Value.int IntKind.i64 a1,Value.int IntKind.i64 a2,Value.int IntKind.i64 ↑l3.length] 2) w.heap.size (by simp;omega)).trans HE1.out)
  clear HE HE1 he0 he1 he2 he3
  have HE := HE2
  clear HE2
  obtain ⟨gB, hgB⟩ : ∃ g, Aside0 (g = w2.heap.size) := ⟨_, ⟨rfl⟩⟩
  obtain ⟨gL, hgL⟩ : ∃ g, Aside0 (g = gB + 1) := ⟨_, ⟨rfl⟩⟩
  have hLB : gB < gL := by have := hgL.out; omega
  rw [← hgB.out] at HI HL hsz2 ⊢
  rw [← hgL.out] at HL ⊢
  rw [← hgE.out] at HE hsz2 ⊢
  go_loopg [32] 4 (fun kx s32 wr => ∃ (j : Nat) (b : List Int),s32 = .int .i64 j ∧ j + kx = 4 ∧ Aside0 (putAll k (([a0,a1,a2,(l3.length : Int)] : List Int).drop j) b = some b1) ∧ Aside0 (RowIn w wr gB b) ∧ Aside0 (wr.heap[gL]? = some (.cells (([a0,a1,a2,(l3.length : Int)] : List Int).map (Value.int .i64)).toArray 2 (0,0))) ∧ Aside0 (wr.heap[gE]? = some (.cells #[.int .i64 a0,.int .i64 a1,.int .i64 a2,.slice A3 l3.length c3,.slice A4 l4.length c4] 43 (0,0))))
  case atStart => exact ⟨0, _, rfl, rfl, H1, HI, HL, HE⟩
  case round =>
   (try clear H1)
   (try clear HI)
   (try clear HL)
   (try clear HE)
   obtain ⟨j, b, rfl, hk, HP, HI, HL, HE⟩ := hrel
   cases gk with
   | zero =>
    have hj : ((j : Int) < 4) = False := eq_false (by omega)
    have hbe : b = b1 := by
     have h_ := HP.out
     rw [List.drop_eq_nil_of_le (by simp only [List.length_cons, List.length_nil]; omega)] at h_
     exact Option.some.inj h_
    subst hbe
    have he3 : wr.cell? ⟨gE, 3, none⟩ = some (.slice A3 l3.length c3) := (blk_cell HE.out 3).trans rfl
    go_wp2
    go_loopg [43] l3.length (fun kx s43 wr => ∃ (i : Nat) (b : List Int),s43 = .int .i64 i ∧ i + kx = l3.length ∧ Aside0 (putFiles k (l3.drop i) b = some b2) ∧ Aside0 (RowIn w wr gB b) ∧ Aside0 (wr.heap[gE]? = some (.cells #[.int .i64 a0,.int .i64 a1,.int .i64 a2,.slice A3 l3.length c3,.slice A4 l4.length c4] 43 (0,0))))
    case atStart => exact ⟨0, b, rfl, by omega, H2, HI, HE⟩
    case round =>
     clear H2 HI HL HE he3 HP
     obtain ⟨i, b, rfl, hk2, HPF, HI, HE⟩ := hrel
     cases gk with
     | zero =>
      have hi : ((i : Int) < (l3.length : Int)) = False := eq_false (by omega)
      have hbe : b = b2 := by
       have h_ := HPF.out
       rw [List.drop_eq_nil_of_le (by omega)] at h_
       exact Option.some.inj h_
      subst hbe
      have h_ := H3.out
      simp only [putAll] at h_
      obtain ⟨p, hp1, hp2⟩ := Option.bind_eq_some_iff.mp h_
      by_cases hpl : b.length + p.length < 140737488355328
      ·rw [if_pos hpl] at hp2
       have hb3 := Option.some.inj hp2
       have HQ := Aside0.mk hp1
       clear h_ hp1 hp2
       have he4 : wr.cell? ⟨gE, 4, none⟩ = some (.slice A4 l4.length c4) := (blk_cell HE.out 4).trans rfl
       go_wp2_with (first|(go_at_call 55;refine (edit_Encode1.calls k gB b (l4.length : Int) p w _ HI.out HQ.out hpl).mono ?_;rintro e w' ⟨rfl,hI',hsz,hoth⟩;rw [hb3] at hI';have HI' := Aside0.mk hI';have HE' := Aside0.mk (hoth _ _ 43 (by omega) (by decide) HE.out);have he4' : w'.cell? ⟨gE,4,none⟩ = some (.slice A4 l4.length c4) := (blk_cell HE'.out 4).trans rfl;clear hI' hsz hoth))
       go_loopg [81] l4.length (fun kx s81 wr => ∃ (i : Nat) (b : List Int), s81 = .int .i64 i ∧ i + kx = l4.length ∧ Aside0 (putAll k (l4.drop i) b = some b4) ∧ Aside0 (RowIn w wr gB b))
       case atStart => exact ⟨0, b3, rfl, by omega, H4, HI'⟩
       case round =>
        (try clear H4)
        (try clear HI)
        (try clear HI')
        (try clear HE)
        (try clear HE')
        obtain ⟨i, b, rfl, hk3, HP, HI⟩ := hrel
        cases gk with
        | zero =>
         have hi : ((i : Int) < (l4.length : Int)) = False := eq_false (by omega)
         have hbe : b = b4 := by
          have h_ := HP.out
          rw [List.drop_eq_nil_of_le (by omega)] at h_
          exact Option.some.inj h_
         subst hbe
         obtain ⟨hgb, hB, v, hC, hO⟩ := HI.out
         have HC := Aside0.mk hC
         have HO := Aside0.mk hO
         have HB := Aside0.mk hB
         clear hC hO hB
         have hc0 := (blk_cell HC.out 0).trans rfl
         go_wp2
         go_ret2
         exact ⟨v, rfl, Kd.R_mono HO.out (fun _ _ => trivial), HB.out⟩
        | succ k3 =>
         have hi : ((i : Int) < (l4.length : Int)) = True := eq_true (by omega)
         have hi0 : ((0 : Int) ≤ (i : Int)) = True := eq_true (by omega)
         have hi1 : (i < l4.length) = True := eq_true (by omega)
         have hw64 : Aside0 (wrap64 ((i : Int) + 1) = ((i + 1 : Nat) : Int)) := ⟨by have h_ := HR4.out.2.1; unfold wrap64; omega⟩
         obtain ⟨ad4, rfl, g0⟩ := Kd.at_int (Kd.C_below HR4.out HI.out.2.1) (i : Int) (by omega) (by omega)
         rw [Int.toNat_natCast] at g0
         rw [rd, Int.toNat_natCast] at g0
         have hp_ := HP.out
         rw [drop_getD l4 i (by omega)] at hp_
         clear HP
         generalize l4.getD i 0 = n at hp_ g0
         simp only [putAll] at hp_
         obtain ⟨p, hp1, hp2⟩ := Option.bind_eq_some_iff.mp hp_
         by_cases hpl : b.length + p.length < 140737488355328
         ·rw [if_pos hpl] at hp2
          have HP := Aside0.mk hp2
          have HQ := Aside0.mk hp1
          clear hp_ hp1 hp2
          go_wp2_with (first|(go_at_call 55; refine (edit_Encode1.calls k gB b n p w _ HI.out HQ.out hpl).mono ?_; rintro e w' ⟨rfl, hI', hsz, hoth⟩; have HI' := Aside0.mk hI'; clear hI' hsz hoth))
          go_roundg k3
          case measure => omega
          case rel => exact ⟨i + 1, b ++ p, by first | rw [hw64.out] | rfl, by omega, HP, HI'⟩
         ·rw [if_neg hpl] at hp2; cases hp2
      ·rw [if_neg hpl] at hp2; cases hp2
     | succ k2 =>
      have hi : ((i : Int) < (l3.length : Int)) = True := eq_true (by omega)
      have hi0 : ((0 : Int) ≤ (i : Int)) = True := eq_true (by omega)
      have hi1 : (i < l3.length) = True := eq_true (by omega)
      obtain ⟨ad, rfl, g0, g1, g2, g3, g4⟩ := at_T55 (Kd.C_below HR3.out HI.out.2.1) (i : Int) (by omega) (by omega)
      rw [Int.toNat_natCast] at g0
      simp only [Int.toNat_natCast] at g1 g2 g3 g4
      have hw64 : Aside0 (wrap64 ((i : Int) + 1) = ((i + 1 : Nat) : Int)) := ⟨by have h_ := HR3.out.2.1; unfold wrap64; omega⟩
      have hdi : l3.drop i = rd_T55 l3 (i : Int) :: l3.drop (i + 1) := by
       unfold rd_T55
       rw [Int.toNat_natCast, List.drop_eq_getElem_cons (by omega), List.getD_eq_getElem?_getD, List.getElem?_eq_getElem (by omega)]; rfl
      have h_ := HPF.out
      rw [hdi] at h_
      clear hdi HPF
      simp only [putFiles] at h_
      generalize (rd_T55 l3 (i : Int)).f0 = x0 at h_ g0
      generalize (rd_T55 l3 (i : Int)).f1 = x1 at h_ g1
      generalize (rd_T55 l3 (i : Int)).f2 = x2 at h_ g2
      generalize (rd_T55 l3 (i : Int)).f3 = x3 at h_ g3
      generalize (rd_T55 l3 (i : Int)).f4 = x4 at h_ g4
      obtain ⟨b1', hq1, h_⟩ := Option.bind_eq_some_iff.mp h_
      obtain ⟨s1, hq2, h_⟩ := Option.bind_eq_some_iff.mp h_
      obtain ⟨s2, hq3, h_⟩ := Option.bind_eq_some_iff.mp h_
      by_cases hpl2 : b1'.length + s1.length + s2.length < 140737488355328
      ·rw [if_pos hpl2] at h_
       have HPF := Aside0.mk h_
       have HP1 := Aside0.mk hq1
       have HT1 := Aside0.mk hq2
       have HT2 := Aside0.mk hq3
       clear h_ hq1 hq2 hq3
       obtain ⟨gF, hgF⟩ : ∃ g, Aside0 (g = wr.heap.size) := ⟨_, ⟨rfl⟩⟩
       obtain ⟨gM, hgM⟩ : ∃ g, Aside0 (g = gF + 1) := ⟨_, ⟨rfl⟩⟩
       have hlM : gF < gM := by have := hgM.out; omega
       have hlE : gE < gF := by have := hgF.out; have := blk_lt HE.out; omega
       have hlB : gB < gF := by have := hgF.out; have := blk_lt HI.out.2.2.choose_spec.1; omega
       go_wp2
       rw [← hgF.out]
       rw [← hgM.out]
       go_loopg [55] 3 (fun kx s55 wr => ∃ (j : Nat) (b : List Int),s55 = .int .i64 j ∧ j + kx = 3 ∧ Aside0 (putAll k (([x0,x1,x2] : List Int).drop j) b = some b1') ∧ Aside0 (RowIn w wr gB b) ∧ Aside0 (wr.heap[gM]? = some (.cells (([x0,x1,x2] : List Int).map (Value.int .i64)).toArray 2 (0,0))) ∧ Aside0 (wr.heap[gE]? = some (.cells #[.int .i64 a0,.int .i64 a1,.int .i64 a2,.slice (some ad) l3.length c3,.slice A4 l4.length c4] 43 (0,0))) ∧ Aside0 (wr.heap[gF]? = some (.cells #[.int .i64 x0,.int .i64 x1,.int .i64 x2,.string x3,.string x4] 55 (0,0))))
       case atStart =>
        have hgM2 : gM = wr.heap.size + 1 := by have := hgM.out; have := hgF.out; omega
        rw [hgF.out]
        have hbW : ∀ (L : Obj),Below wr.heap.size wr ((wr.alloc (.cells #[.int .i64 x0,.int .i64 x1,.int .i64 x2,.string x3,.string x4] 55)).alloc L) := fun L => below_alloc (below_alloc (Below.refl _ _) _) _
        refine ⟨0, b, rfl, rfl, HP1, ⟨HI.out.below (hbW _)⟩, ⟨alloc_new_ _ _ _ (by simp [hgM2])⟩, ⟨((hbW _).block gE (blk_lt HE.out)).trans HE.out⟩, ⟨?_⟩⟩
        exact (Below.heap_alloc _ _ _ (by simp)).trans (alloc_new_ wr _ _ rfl)
       case round =>
        (try clear HP1)
        (try clear HI)
        (try clear HL)
        (try clear HE)
        (try clear HF)
        obtain ⟨j, b, rfl, hk, HP, HI, HL, HE, HF⟩ := hrel
        cases gk with
        | zero =>
         have hj : ((j : Int) < 3) = False := eq_false (by omega)
         have hbe : b = b1' := by
          have h_ := HP.out
          rw [List.drop_eq_nil_of_le (by simp only [List.length_cons, List.length_nil]; omega)] at h_
          exact Option.some.inj h_
         subst hbe
         obtain ⟨bs, hbs⟩ : ∃ z, Aside0 (z = b ++ s1) := ⟨_, ⟨rfl⟩⟩
         obtain ⟨bt, hbt⟩ : ∃ z, Aside0 (z = bs ++ s2) := ⟨_, ⟨rfl⟩⟩
         have hbsl : Aside0 (bs.length = b.length + s1.length) := ⟨by rw [hbs.out, List.length_append]⟩
         obtain ⟨hgb, hB, v, hC, hO⟩ := HI.out
         have HC := Aside0.mk hC
         have HO := Aside0.mk hO
         have HB := Aside0.mk hB
         clear hC hO hB
         have hc0 := (blk_cell HC.out 0).trans rfl
         have hf0 := blk_frozen HC.out 0
         have hy3 : wr.cell? ⟨gF, 3, none⟩ = some (.string x3) := (blk_cell HF.out 3).trans rfl
         have hy4 : wr.cell? ⟨gF, 4, none⟩ = some (.string x4) := (blk_cell HF.out 4).trans rfl
         go_wp2
         go_region_law (first
         |(go_simp;go_at_call 57;(with_reducible refine (varint_Text.calls k x3 s1 _ HT1.out).mono ?_);rintro e w5 ⟨v5,rfl,ho,hb⟩;obtain ⟨At5,ct5,e1⟩ := Kd.R_slice ho;subst e1;have HB5 := Aside0.mk (below_step (below_drew1 HB.out) hb);have HO5 := Aside0.mk (Kd.R_below (Kd.R_drew HO.out) hb);have HS5 := Aside0.mk (Kd.R_reads' ho).2.2;have HC5 := Aside0.mk ((hb.block gB (blk_lt HC.out)).trans HC.out);have HF5 := Aside0.mk ((hb.block gF (blk_lt HF.out)).trans HF.out);have HE5 := Aside0.mk ((hb.block gE (blk_lt HE.out)).trans HE.out);have hc5 := (blk_cell HC5.out 0).trans rfl;have hf5 := blk_frozen HC5.out 0;have hy35 : w5.cell? ⟨gF,3,none⟩ = some (.string x3) := (blk_cell HF5.out 3).trans rfl;have hy45 : w5.cell? ⟨gF,4,none⟩ = some (.string x4) := (blk_cell HF5.out 4).trans rfl;clear ho hb)
         |(refine Kd.R_append_rows_step (Kd.int .u8) (w0 := w) w.heap.size (by rfl) _ _ 28 5 (.int .u8 0) 1 rfl Try.underlying28 info5 rfl (by decide) (by omega) v b s1 At5 s1.length ct5 (fun k => k ≠ gB) (fun _ => False) (by rfl) (by rfl) ?aO ?aR (fun _ _ h => h) (fun _ h => h.elim) ?aF ?aB ?aS ?aL ?_;(case aO => exact HO5.out);(case aR => exact HS5.out);(case aF => exact fun i hi => by have := blk_lt HC5.out;omega);(case aB => exact HB5.out);(case aS => exact below_size HB5.out);(case aL => have hbsl_ := hbsl.out;omega);intro v6 w6 ho1 hb1 hg hat;rw [← hbs.out] at ho1;obtain ⟨Ar6,cr6,e3⟩ := Kd.R_slice ho1;subst e3;have HO6 := Aside0.mk ho1;have HB6 := Aside0.mk hb1;have HC6 := Aside0.mk ((hg.block gB (blk_lt HC5.out) (fun z => HO5.out.1 gB z.symm rfl)).trans HC5.out);have HF6 := Aside0.mk (grown_other hg HO5.out HF5.out (by decide));have HE6 := Aside0.mk (grown_other hg HO5.out HE5.out (by decide));have hc6 := (blk_cell HC6.out 0).trans rfl;have hf6 := blk_frozen HC6.out 0;have hy36 : w6.cell? ⟨gF,3,none⟩ = some (.string x3) := (blk_cell HF6.out 3).trans rfl;have hy46 : w6.cell? ⟨gF,4,none⟩ = some (.string x4) := (blk_cell HF6.out 4).trans rfl;clear ho1 hb1 hg hat)
         |(go_simp;go_at_call 57;(with_reducible refine (varint_Text.calls k x4 s2 _ HT2.out).mono ?_);rintro e w7 ⟨v7,rfl,ho,hb⟩;obtain ⟨At7,ct7,e1⟩ := Kd.R_slice ho;subst e1;have HB7 := Aside0.mk (below_step (HB6.out) hb);have HO7 := Aside0.mk (Kd.R_below (HO6.out) hb);have HS7 := Aside0.mk (Kd.R_reads' ho).2.2;have HC7 := Aside0.mk ((hb.block gB (blk_lt HC6.out)).trans HC6.out);have HF7 := Aside0.mk ((hb.block gF (blk_lt HF6.out)).trans HF6.out);have HE7 := Aside0.mk ((hb.block gE (blk_lt HE6.out)).trans HE6.out);have hc7 := (blk_cell HC7.out 0).trans rfl;have hf7 := blk_frozen HC7.out 0;have hy37 : w7.cell? ⟨gF,3,none⟩ = some (.string x3) := (blk_cell HF7.out 3).trans rfl;have hy47 : w7.cell? ⟨gF,4,none⟩ = some (.string x4) := (blk_cell HF7.out 4).trans rfl;clear ho hb)
         |(refine Kd.R_append_rows_step (Kd.int .u8) (w0 := w) w.heap.size (by rfl) _ _ 28 5 (.int .u8 0) 1 rfl Try.underlying28 info5 rfl (by decide) (by omega) (.slice Ar6 bs.length cr6) bs s2 At7 s2.length ct7 (fun k => k ≠ gB) (fun _ => False) (by rfl) (by rfl) ?aO ?aR (fun _ _ h => h) (fun _ h => h.elim) ?aF ?aB ?aS ?aL ?_;(case aO => exact HO7.out);(case aR => exact HS7.out);(case aF => exact fun i hi => by have := blk_lt HC7.out;omega);(case aB => exact HB7.out);(case aS => exact below_size HB7.out);(case aL => have hbsl_ := hbsl.out;omega);intro v8 w8 ho1 hb1 hg hat;rw [← hbt.out] at ho1;obtain ⟨Ar8,cr8,e3⟩ := Kd.R_slice ho1;subst e3;have HO8 := Aside0.mk ho1;have HB8 := Aside0.mk hb1;have HC8 := Aside0.mk ((hg.block gB (blk_lt HC7.out) (fun z => HO7.out.1 gB z.symm rfl)).trans HC7.out);have HF8 := Aside0.mk (grown_other hg HO7.out HF7.out (by decide));have HE8 := Aside0.mk (grown_other hg HO7.out HE7.out (by decide));have hc8 := (blk_cell HC8.out 0).trans rfl;have hf8 := blk_frozen HC8.out 0;have hy38 : w8.cell? ⟨gF,3,none⟩ = some (.string x3) := (blk_cell HF8.out 3).trans rfl;have hy48 : w8.cell? ⟨gF,4,none⟩ = some (.string x4) := (blk_cell HF8.out 4).trans rfl;clear ho1 hb1 hg hat))
         all_goals
          go_wp2
          go_roundg k2
          case measure => omega
          case rel =>
           have hPF := HPF.out
           rw [show b ++ s1 ++ s2 = bt by rw [hbt.out, hbs.out]] at hPF
           exact ⟨i + 1,bt,by rw [hw64.out],by omega,⟨hPF⟩,⟨⟨hgb,below_set HB8.out hgb,_,blk_set HC8.out 0 _,Kd.R_far (p := ⟨gB,0,none⟩) HO8.out (fun _ hk => hk) _⟩⟩,⟨(Below.heap_setCell w8 _ _ _ (by show gE ≠ gB;omega)).trans HE8.out⟩⟩
        | succ k1 =>
         have hj : ((j : Int) < 3) = True := eq_true (by omega)
         have hj0 : ((0 : Int) ≤ (j : Int)) = True := eq_true (by omega)
         have hj1 : (j < 3) = True := eq_true (by omega)
         have hjl : j < ([x0, x1, x2] : List Int).length := by simp only [List.length_cons, List.length_nil]; omega
         have hdj := drop_getD ([x0, x1, x2] : List Int) j hjl
         have hcj := (blk_cell HL.out j).trans (map_get ([x0, x1, x2] : List Int) j hjl)
         have hp_ := HP.out
         rw [hdj] at hp_
         clear HP hdj
         generalize ([x0, x1, x2] : List Int).getD j 0 = n at hp_ hcj
         simp only [putAll] at hp_
         obtain ⟨p, hp1, hp2⟩ := Option.bind_eq_some_iff.mp hp_
         by_cases hpl : b.length + p.length < 140737488355328
         ·rw [if_pos hpl] at hp2
          have HP := Aside0.mk hp2
          have HQ := Aside0.mk hp1
          clear hp_ hp1 hp2
          go_wp2_with (first|(go_at_call 55;refine (edit_Encode1.calls k (gB) b n p w _ HI.out HQ.out hpl).mono ?_;rintro e w' ⟨rfl,hI',hsz,hoth⟩;have HI' := Aside0.mk hI';have HL' := Aside0.mk (hoth _ _ 2 (by omega) (by decide) HL.out);have HE' := Aside0.mk (hoth _ _ 43 (by omega) (by decide) HE.out);have HF' := Aside0.mk (hoth _ _ 55 (by omega) (by decide) HF.out);clear hI' hsz hoth))
          go_roundg k1
          case measure => omega
          case rel => exact ⟨j + 1, b ++ p, rfl, by omega, HP, HI', HL', HE', HF'⟩
         ·rw [if_neg hpl] at hp2; cases hp2
      ·rw [if_neg hpl2] at h_; cases h_
   | succ k1 =>
    have hj : ((j : Int) < 4) = True := eq_true (by omega)
    have hj0 : ((0 : Int) ≤ (j : Int)) = True := eq_true (by omega)
    have hj1 : (j < 4) = True := eq_true (by omega)
    have hjl : j < ([a0, a1, a2, (l3.length : Int)] : List Int).length := by simp only [List.length_cons, List.length_nil]; omega
    have hdj := drop_getD ([a0, a1, a2, (l3.length : Int)] : List Int) j hjl
    have hcj := (blk_cell HL.out j).trans (map_get ([a0, a1, a2, (l3.length : Int)] : List Int) j hjl)
    have hp_ := HP.out
    rw [hdj] at hp_
    clear HP hdj
    generalize ([a0, a1, a2, (l3.length : Int)] : List Int).getD j 0 = n at hp_ hcj
    simp only [putAll] at hp_
    obtain ⟨p, hp1, hp2⟩ := Option.bind_eq_some_iff.mp hp_
    by_cases hpl : b.length + p.length < 140737488355328
    ·rw [if_pos hpl] at hp2
     have HP := Aside0.mk hp2
     have HQ := Aside0.mk hp1
     clear hp_ hp1 hp2
     go_wp2_with (first|(go_at_call 55;refine (edit_Encode1.calls k (gB) b n p w _ HI.out HQ.out hpl).mono ?_;rintro e w' ⟨rfl,hI',hsz,hoth⟩;have HI' := Aside0.mk hI';have HL' := Aside0.mk (hoth _ _ 2 (by omega) (by decide) HL.out);have HE' := Aside0.mk (hoth _ _ 43 (by omega) (by decide) HE.out);clear hI' hsz hoth))
     go_roundg k1
     case measure => omega
     case rel => exact ⟨j + 1, b ++ p, rfl, by omega, HP, HI', HL', HE'⟩
    ·rw [if_neg hpl] at hp2; cases hp2
 ·rw [if_neg c0] at h
  simp only [Option.some.injEq, Prod.mk.injEq] at h
  obtain ⟨rfl, rfl⟩ := h
  have c0b : (c != 0) = true := bne_iff_ne.mpr c0
  go_enter Try.func25, Try.ntmps25
  go_wp2_with (first|(go_at_call 27;(with_reducible refine (edit_Check.calls k a0 a1 a2 A3 c3 l3 A4 c4 l4 c _ (Kd.C_alloc HR3.out _) hc3 (Kd.C_alloc HR4.out _) hc4 HK.out).mono ?_);rintro e w' ⟨rfl,hb⟩;have HB := Aside0.mk (below_step (below_alloc (Below.refl _ _) _) hb);clear hb))
  go_ret2
  exact ⟨_, rfl, Kd.R_nil _ _ _ _ _, HB.out⟩
theorem putAll.mono : ∀ (l b : List Int) (k : Nat), LeO (putAll k l b) (putAll (k + 1) l b)
 | [], b, k => LeO.refl _
 | n :: t, b, k => by
  unfold putAll
  exact LeO.bind (varint_Put.mono _ _) (fun p => LeO.ite (putAll.mono t _ k) (LeO.refl _))
theorem putFiles.mono : ∀ (l : List S55) (b : List Int) (k : Nat), LeO (putFiles k l b) (putFiles (k + 1) l b)
 | [], b, k => LeO.refl _
 | f :: t, b, k => by
  unfold putFiles
  exact LeO.bind (putAll.mono _ _ _) (fun b1 => LeO.bind (varint_Text.mono _ _) (fun s1 => LeO.bind (varint_Text.mono _ _) (fun s2 => LeO.ite (putFiles.mono t _ k) (LeO.refl _))))
theorem edit_Encode.mono : ∀ a0 a1 a2 a3 a4 k, LeO (edit_Encode.f k a0 a1 a2 a3 a4) (edit_Encode.f (k + 1) a0 a1 a2 a3 a4) := by
 intro a0 a1 a2 a3 a4 k
 unfold edit_Encode.f
 exact LeO.bind (edit_Check.mono _ _ _ _ _ _) (fun c => LeO.ite (LeO.bind (putAll.mono _ _ _) (fun b1 => LeO.bind (putFiles.mono _ _ _) (fun b2 => LeO.bind (putAll.mono _ _ _) (fun b3 => LeO.bind (putAll.mono _ _ _) (fun b4 => LeO.refl _))))) (LeO.refl _))

/-! ### varint_Get: function 74 -/
def varint_Get.l0 : Nat → Int → List Int → Int → Int → Option (Int × Int)
 | 0, _, _, _, _ => none
 | k + 1,x4,x11,x12,x13 => if x13 < x12 then (if 0 ≤ x13 then (if x13 < (x11.length : Int) then (if 0 ≤ (wrap64 (7 * x13)) then (if (rd x11 x13) > 127 then (varint_Get.l0 k (Go.bits .or .u64 x4 (shl .u64 (IntKind.u64.wrap (Go.bits .and .u8 (rd x11 x13) 127)) (wrap64 (7 * x13)))) x11 x12 (wrap64 (x13 + 1))) else (if x13 > 0 then (if (rd x11 x13) = 0 then (some (0,0)) else (if x13 = 9 then (if (rd x11 x13) > 1 then (some (0,0)) else (some (Go.bits .or .u64 x4 (shl .u64 (IntKind.u64.wrap (Go.bits .and .u8 (rd x11 x13) 127)) (wrap64 (7 * x13))),wrap64 (x13 + 1)))) else (some (Go.bits .or .u64 x4 (shl .u64 (IntKind.u64.wrap (Go.bits .and .u8 (rd x11 x13) 127)) (wrap64 (7 * x13))),wrap64 (x13 + 1))))) else (if x13 = 9 then (if (rd x11 x13) > 1 then (some (0,0)) else (some (Go.bits .or .u64 x4 (shl .u64 (IntKind.u64.wrap (Go.bits .and .u8 (rd x11 x13) 127)) (wrap64 (7 * x13))),wrap64 (x13 + 1)))) else (some (Go.bits .or .u64 x4 (shl .u64 (IntKind.u64.wrap (Go.bits .and .u8 (rd x11 x13) 127)) (wrap64 (7 * x13))),wrap64 (x13 + 1)))))) else (none)) else (none)) else (none)) else (some (0,0))
def varint_Get.f (k : Nat) (l0 : List Int) : Option (Int × Int) := if 0 ≤ (mn (l0.length : Int) 10) then (if (mn (l0.length : Int) 10) ≤ (l0.length : Int) then ((some (l0.take ((mn (l0.length : Int) 10) : Int).toNat : List Int)).bind fun y136 => (varint_Get.l0 k 0 y136 (y136.length : Int) 0)) else (none)) else (none)
theorem varint_Get.mono_l : ∀ k, (∀ y0 y1 y2 y3, LeO (varint_Get.l0 k y0 y1 y2 y3) (varint_Get.l0 (k + 1) y0 y1 y2 y3))
 | 0 => fun _ _ _ _ r h => by simp [varint_Get.l0] at h
 | k + 1 => by
  have ih0 := varint_Get.mono_l k
  ·intro y0 y1 y2 y3
   unfold varint_Get.l0
   repeat' first
  |(with_reducible exact ih0 _ _ _ _)
  |(with_reducible exact LeO.refl _)
  |(with_reducible exact LeO.none _)
  |(with_reducible refine LeO.ite ?_ ?_)
  |(with_reducible refine LeO.bind ?_ (fun _ => ?_))
  |exact ih0 _ _ _ _
  |exact LeO.none _
  |refine LeO.ite ?_ ?_
  |refine LeO.bind ?_ (fun _ => ?_)
theorem varint_Get.mono : ∀ a0 k, LeO (varint_Get.f k a0) (varint_Get.f (k + 1) a0) := by
 intro a0 k
 have ih0 := varint_Get.mono_l k
 unfold varint_Get.f
 repeat' first
  |(with_reducible exact ih0 _ _ _ _)
  |(with_reducible exact LeO.refl _)
  |(with_reducible exact LeO.none _)
  |(with_reducible refine LeO.ite ?_ ?_)
  |(with_reducible refine LeO.bind ?_ (fun _ => ?_))
  |exact ih0 _ _ _ _
  |exact LeO.none _
  |refine LeO.ite ?_ ?_
  |refine LeO.bind ?_ (fun _ => ?_)
set_option maxHeartbeats 80000000 in
set_option maxRecDepth 100000 in
theorem varint_Get.calls (k : Nat) (A0 : Option Addr) (c0 : Nat) (l0 : List Int) (r1 : Int) (r2 : Int) (w : World) (hr0 : Kd.C (Kd.int .u8) w A0 l0.length l0) (hc0 : l0.length ≤ c0) (h : varint_Get.f k l0 = some (r1,r2)) :
  Calls Try.prog 74 #[.slice A0 l0.length c0] w fun e w' => e = .returned (.tuple #[.int .u64 r1, .int .i64 r2]) ∧ Below w.heap.size w w' := by
 have HR0 := Aside0.mk hr0
 have HC0 := Aside0.mk hc0
 clear hr0 hc0
 have HB := Aside0.mk (Below.refl w.heap.size w)
 have H : (if 0 ≤ (mn (l0.length : Int) 10) then (if (mn (l0.length : Int) 10) ≤ (l0.length : Int) then ((some (l0.take ((mn (l0.length : Int) 10) : Int).toNat : List Int)).bind fun y136 => (varint_Get.l0 k 0 y136 (y136.length : Int) 0)) else (none)) else (none)) = some (r1,r2) := h
 clear h
 obtain ⟨ji2, hji2⟩ : ∃ j_ : Int, (mn (l0.length : Int) 10) = j_ := ⟨_, rfl⟩
 replace H : (if 0 ≤ (ji2) then (if (ji2) ≤ (l0.length : Int) then ((some (l0.take ((ji2) : Int).toNat : List Int)).bind fun y136 => (varint_Get.l0 k 0 y136 (y136.length : Int) 0)) else (none)) else (none)) = some (r1,r2) := by first|(rw [hji2] at H;exact H)|(simp only [hji2] at H ⊢;exact H)
 (try (have hji2h : ji2 ≤ 10 := by (rw [← hji2]; unfold mn; (repeat' split) <;> omega)))
 (try (have hji2g : ji2 ≤ 64 := by omega))
 (try (have hji2l : 0 ≤ ji2 := by (rw [← hji2]; unfold mn; (repeat' split) <;> omega)))
 (try (have hji2m : 0 ≤ ji2 := by omega))
 have hji2_ : (if 10 < (l0.length : Int) then 10 else (l0.length : Int)) = ji2 := hji2
 by_cases c3 : 0 ≤ (ji2)
 ·rw [if_pos c3] at H
  have c3b0 := eq_true c3
  have c3b1 : decide (0 ≤ (ji2)) = true := decide_eq_true c3
  clear c3
  by_cases c4 : (ji2) ≤ (l0.length : Int)
  ·rw [if_pos c4] at H
   have c4b0 := eq_true c4
   have c4b1 : decide ((ji2) ≤ (l0.length : Int)) = true := decide_eq_true c4
   clear c4
   obtain ⟨y136, hy136⟩ : ∃ y_ : List Int, y_ = (l0.take ((ji2) : Int).toNat) := ⟨_, rfl⟩
   replace H : (varint_Get.l0 k 0 y136 (y136.length : Int) 0) = some (r1,r2) := by first|(rw [hy136];with_reducible exact H)|(have H2_ := (Option.bind_some _ _).symm.trans H;rw [hy136];with_reducible exact H2_)|(have H2_ := (Option.bind_some _ _).symm.trans H;with_reducible exact H2_) | with_reducible exact H|(rw [hy136];exact H)|exact H
   have Ny136 := Aside0.mk hy136
   clear hy136
   have H' := Aside0.mk H
   clear H
   have q5 : ((ji2) : Int) ≤ ((l0.length : Int) : Int) := of_decide_eq_true (by first|(with_reducible assumption) | assumption)
   obtain ⟨i05, hi05, _, hsz5, _⟩ := info_parts info5
   have hroom5 : l0.length ≤ c0 := HC0.out
   have hC5 : Kd.C (Kd.int .u8) _ A0 l0.length l0 := HR0.out
   have hcut5 := cut_to (P := Try.prog) 28 5 .i64 Try.underlying28 hi05 A0 l0.length c0 (ji2) (of_decide_eq_true (by first|(with_reducible assumption) | assumption)) q5 hroom5
   have hr5 := Kd.C_take (m := ((ji2) : Int).toNat) hC5 (by omega)
   have hy5 : y136.length = ((ji2) : Int).toNat := (by rw [Ny136.out, List.length_take]; omega)
   rw [← Ny136.out] at hr5
   rw [← hy5] at hcut5
   have HR139 := Aside0.mk hr5
   have HC139 := Aside0.mk (show y136.length ≤ c0 from by omega)
   clear hr5 hC5 hroom5 hi05 hsz5
   have KY5 := Aside0.mk hy5
   clear hy5
   replace q5 := eq_true q5
   go_enter Try.func74, Try.ntmps74
   go_wp2
   go_loopg [4,13] k (fun kq v4 v13 w' => ∃ (x4_1 : Int) (x13_1 : Int),v4 = .int .u64 x4_1 ∧ v13 = .int .i64 x13_1 ∧ Aside0 (varint_Get.l0 kq x4_1 y136 (y136.length : Int) x13_1 = some (r1,r2)) ∧ Aside0 (kq ≤ k) ∧ Aside0 (Below w.heap.size w w'))
   case atStart => exact ⟨(0),(0),(by first | rfl|(simp;done)|(simp [*];done)),(by first | rfl|(simp;done)|(simp [*];done)),H',⟨Nat.le_refl _⟩,⟨by repeat (first|(with_reducible first|exact HB.out|apply below_alloc|apply pw_below_drewN|apply below_drew1)|exact HB.out)⟩⟩
   case round =>
    clear H'
    try clear p2
    try clear c3
    try clear c3b0
    try clear c3b1
    try clear c4
    try clear c4b0
    try clear c4b1
    try clear q5
    try clear q5
    obtain ⟨x4_1, x13_1, rfl, rfl, HA, HK1, HB⟩ := hrel
    cases gk with
    | zero => exact absurd HA.out (by simp [varint_Get.l0])
    | succ k1 =>
     have H := HA.out
     clear HA
     simp only [varint_Get.l0] at H
     by_cases c6 : x13_1 < (y136.length : Int)
     ·rw [if_pos c6] at H
      have c6b0 : decide (x13_1 < (y136.length : Int)) = true := decide_eq_true c6
      clear c6
      by_cases c7 : 0 ≤ x13_1
      ·rw [if_pos c7] at H
       have c7b0 : decide (0 ≤ x13_1) = true := decide_eq_true c7
       clear c7
       by_cases c8 : x13_1 < (y136.length : Int)
       ·rw [if_pos c8] at H
        have c8b0 : decide (x13_1 < (y136.length : Int)) = true := decide_eq_true c8
        clear c8
        obtain ⟨ji9, hji9⟩ : ∃ j_ : Int, (wrap64 (7 * x13_1)) = j_ := ⟨_, rfl⟩
        replace H : (if 0 ≤ (ji9) then (if (rd y136 x13_1) > 127 then (varint_Get.l0 k1 (Go.bits .or .u64 x4_1 (shl .u64 (IntKind.u64.wrap (Go.bits .and .u8 (rd y136 x13_1) 127)) (ji9))) y136 (y136.length : Int) (wrap64 (x13_1 + 1))) else (if x13_1 > 0 then (if (rd y136 x13_1) = 0 then (some (0,0)) else (if x13_1 = 9 then (if (rd y136 x13_1) > 1 then (some (0,0)) else (some (Go.bits .or .u64 x4_1 (shl .u64 (IntKind.u64.wrap (Go.bits .and .u8 (rd y136 x13_1) 127)) (ji9)),wrap64 (x13_1 + 1)))) else (some (Go.bits .or .u64 x4_1 (shl .u64 (IntKind.u64.wrap (Go.bits .and .u8 (rd y136 x13_1) 127)) (ji9)),wrap64 (x13_1 + 1))))) else (if x13_1 = 9 then (if (rd y136 x13_1) > 1 then (some (0,0)) else (some (Go.bits .or .u64 x4_1 (shl .u64 (IntKind.u64.wrap (Go.bits .and .u8 (rd y136 x13_1) 127)) (ji9)),wrap64 (x13_1 + 1)))) else (some (Go.bits .or .u64 x4_1 (shl .u64 (IntKind.u64.wrap (Go.bits .and .u8 (rd y136 x13_1) 127)) (ji9)),wrap64 (x13_1 + 1)))))) else (none)) = some (r1,r2) := by first|(rw [hji9] at H;exact H)|(simp only [hji9] at H ⊢;exact H)
        have hji9w : (IntKind.i64.wrap (7 * x13_1)) = ji9 := (i64_w _).trans hji9
        by_cases c10 : 0 ≤ (ji9)
        ·rw [if_pos c10] at H
         have c10b0 := eq_true c10
         have c10b1 : decide (0 ≤ (ji9)) = true := decide_eq_true c10
         clear c10
         obtain ⟨ji11, hji11⟩ : ∃ j_ : Int, (shl .u64 (IntKind.u64.wrap (Go.bits .and .u8 (rd y136 x13_1) 127)) (ji9)) = j_ := ⟨_, rfl⟩
         replace H : (if (rd y136 x13_1) > 127 then (varint_Get.l0 k1 (Go.bits .or .u64 x4_1 (ji11)) y136 (y136.length : Int) (wrap64 (x13_1 + 1))) else (if x13_1 > 0 then (if (rd y136 x13_1) = 0 then (some (0,0)) else (if x13_1 = 9 then (if (rd y136 x13_1) > 1 then (some (0,0)) else (some (Go.bits .or .u64 x4_1 (ji11),wrap64 (x13_1 + 1)))) else (some (Go.bits .or .u64 x4_1 (ji11),wrap64 (x13_1 + 1))))) else (if x13_1 = 9 then (if (rd y136 x13_1) > 1 then (some (0,0)) else (some (Go.bits .or .u64 x4_1 (ji11),wrap64 (x13_1 + 1)))) else (some (Go.bits .or .u64 x4_1 (ji11),wrap64 (x13_1 + 1)))))) = some (r1,r2) := by first|(rw [hji11] at H;exact H)|(simp only [hji11] at H ⊢;exact H)
         have hji11_ : (IntKind.u64.wrap ((IntKind.u64.wrap (Go.bits .and .u8 (rd y136 x13_1) 127)) * 2 ^ min (ji9).toNat 64)) = ji11 := hji11
         have hji11z : (ji9) ≤ 64 → (IntKind.u64.wrap ((IntKind.u64.wrap (Go.bits .and .u8 (rd y136 x13_1) 127)) * 2 ^ (ji9).toNat)) = ji11 := shl_small hji11
         by_cases c12 : (rd y136 x13_1) > 127
         ·rw [if_pos c12] at H
          have c12b0 : decide (127 < (rd y136 x13_1)) = true := decide_eq_true c12
          clear c12
          have H' := Aside0.mk H
          clear H
          have p140 : 0 ≤ (x13_1 : Int) := of_decide_eq_true (by first|(with_reducible assumption) | assumption)
          have q140 : x13_1 < (y136.length : Int) := of_decide_eq_true (by first|(with_reducible assumption) | assumption)
          obtain ⟨ad140, e140, hx140_0⟩ := Kd.at_int HR139.out x13_1 p140 q140
          cases e140
          replace hx140_0 := (HB.out.cell (World.block_lt_of_cell? w _ hx140_0)).trans hx140_0
          replace p140 := eq_true p140
          replace q140 := eq_true q140
          go_wp2
          go_roundg k1
          case measure => have := HK1.out; omega
          case rel => exact ⟨(Go.bits .or .u64 x4_1 (ji11)),(wrap64 (x13_1 + 1)),(by first | rfl|(simp;done)|(simp only [← hji11] <;> (first | rfl | simp))|(simp [*];done)),(by first | rfl|(simp;done)|(simp [*];done)),H',⟨by have := HK1.out;omega⟩,⟨by repeat (first|(with_reducible first|exact HB.out|apply below_alloc|apply pw_below_drewN|apply below_drew1)|exact HB.out)⟩⟩
         ·rw [if_neg c12] at H
          have c12b0 : decide (127 < (rd y136 x13_1)) = false := decide_eq_false c12
          clear c12
          by_cases c13 : x13_1 > 0
          ·rw [if_pos c13] at H
           have c13b0 : decide (0 < x13_1) = true := decide_eq_true c13
           clear c13
           by_cases c14 : (rd y136 x13_1) = 0
           ·rw [if_pos c14] at H
            have c14b0 : ((rd y136 x13_1) == 0) = true := beq_iff_eq.mpr c14
            have c14b1 : ((rd y136 x13_1) != 0) = false := bne_eq_false_iff_eq.mpr c14
            clear c14
            simp only [Option.some.injEq, Prod.mk.injEq] at H
            obtain ⟨rfl, rfl⟩ := H
            have p140 : 0 ≤ (x13_1 : Int) := of_decide_eq_true (by first|(with_reducible assumption) | assumption)
            have q140 : x13_1 < (y136.length : Int) := of_decide_eq_true (by first|(with_reducible assumption) | assumption)
            obtain ⟨ad140, e140, hx140_0⟩ := Kd.at_int HR139.out x13_1 p140 q140
            cases e140
            replace hx140_0 := (HB.out.cell (World.block_lt_of_cell? w _ hx140_0)).trans hx140_0
            replace p140 := eq_true p140
            replace q140 := eq_true q140
            go_wp2
            go_ret2
            exact ⟨by first | rfl|(simp [errW_none,errW_some] <;> rfl)|(simp only [← hji2,← hji9,← hji11];first | rfl|(simp [errW_none,errW_some] <;> rfl))|(simp [*,errW_none,errW_some] <;> rfl),by repeat (first|(with_reducible first|exact HB.out|apply below_alloc|apply pw_below_drewN|apply below_drew1)|exact HB.out)⟩
           ·rw [if_neg c14] at H
            have c14b0 : ((rd y136 x13_1) == 0) = false := beq_eq_false_iff_ne.mpr c14
            have c14b1 : ((rd y136 x13_1) != 0) = true := bne_iff_ne.mpr c14
            by_cases c15 : x13_1 = 9
            ·rw [if_pos c15] at H
             have c15b0 : (x13_1 == 9) = true := beq_iff_eq.mpr c15
             have c15b1 : (x13_1 != 9) = false := bne_eq_false_iff_eq.mpr c15
             clear c15
             by_cases c16 : (rd y136 x13_1) > 1
             ·rw [if_pos c16] at H
              have c16b0 : decide (1 < (rd y136 x13_1)) = true := decide_eq_true c16
              clear c16
              simp only [Option.some.injEq, Prod.mk.injEq] at H
              obtain ⟨rfl, rfl⟩ := H
              have p140 : 0 ≤ (x13_1 : Int) := of_decide_eq_true (by first|(with_reducible assumption) | assumption)
              have q140 : x13_1 < (y136.length : Int) := of_decide_eq_true (by first|(with_reducible assumption) | assumption)
              obtain ⟨ad140, e140, hx140_0⟩ := Kd.at_int HR139.out x13_1 p140 q140
              cases e140
              replace hx140_0 := (HB.out.cell (World.block_lt_of_cell? w _ hx140_0)).trans hx140_0
              replace p140 := eq_true p140
              replace q140 := eq_true q140
              go_wp2
              go_ret2
              exact ⟨by first | rfl|(simp [errW_none,errW_some] <;> rfl)|(simp only [← hji2,← hji9,← hji11];first | rfl|(simp [errW_none,errW_some] <;> rfl))|(simp [*,errW_none,errW_some] <;> rfl),by repeat (first|(with_reducible first|exact HB.out|apply below_alloc|apply pw_below_drewN|apply below_drew1)|exact HB.out)⟩
             ·rw [if_neg c16] at H
              have c16b0 : decide (1 < (rd y136 x13_1)) = false := decide_eq_false c16
              clear c16
              simp only [Option.some.injEq, Prod.mk.injEq] at H
              obtain ⟨rfl, rfl⟩ := H
              have p140 : 0 ≤ (x13_1 : Int) := of_decide_eq_true (by first|(with_reducible assumption) | assumption)
              have q140 : x13_1 < (y136.length : Int) := of_decide_eq_true (by first|(with_reducible assumption) | assumption)
              obtain ⟨ad140, e140, hx140_0⟩ := Kd.at_int HR139.out x13_1 p140 q140
              cases e140
              replace hx140_0 := (HB.out.cell (World.block_lt_of_cell? w _ hx140_0)).trans hx140_0
              replace p140 := eq_true p140
              replace q140 := eq_true q140
              go_wp2
              go_ret2
              exact ⟨by first | rfl|(simp [errW_none,errW_some] <;> rfl)|(simp only [← hji2,← hji9,← hji11];first | rfl|(simp [errW_none,errW_some] <;> rfl))|(simp [*,errW_none,errW_some] <;> rfl),by repeat (first|(with_reducible first|exact HB.out|apply below_alloc|apply pw_below_drewN|apply below_drew1)|exact HB.out)⟩
            ·rw [if_neg c15] at H
             have c15b0 : (x13_1 == 9) = false := beq_eq_false_iff_ne.mpr c15
             have c15b1 : (x13_1 != 9) = true := bne_iff_ne.mpr c15
             simp only [Option.some.injEq, Prod.mk.injEq] at H
             obtain ⟨rfl, rfl⟩ := H
             have p140 : 0 ≤ (x13_1 : Int) := of_decide_eq_true (by first|(with_reducible assumption) | assumption)
             have q140 : x13_1 < (y136.length : Int) := of_decide_eq_true (by first|(with_reducible assumption) | assumption)
             obtain ⟨ad140, e140, hx140_0⟩ := Kd.at_int HR139.out x13_1 p140 q140
             cases e140
             replace hx140_0 := (HB.out.cell (World.block_lt_of_cell? w _ hx140_0)).trans hx140_0
             replace p140 := eq_true p140
             replace q140 := eq_true q140
             go_wp2
             go_ret2
             exact ⟨by first | rfl|(simp [errW_none,errW_some] <;> rfl)|(simp only [← hji2,← hji9,← hji11];first | rfl|(simp [errW_none,errW_some] <;> rfl))|(simp [*,errW_none,errW_some] <;> rfl),by repeat (first|(with_reducible first|exact HB.out|apply below_alloc|apply pw_below_drewN|apply below_drew1)|exact HB.out)⟩
          ·rw [if_neg c13] at H
           have c13b0 : decide (0 < x13_1) = false := decide_eq_false c13
           clear c13
           by_cases c17 : x13_1 = 9
           ·rw [if_pos c17] at H
            have c17b0 : (x13_1 == 9) = true := beq_iff_eq.mpr c17
            have c17b1 : (x13_1 != 9) = false := bne_eq_false_iff_eq.mpr c17
            clear c17
            by_cases c18 : (rd y136 x13_1) > 1
            ·rw [if_pos c18] at H
             have c18b0 : decide (1 < (rd y136 x13_1)) = true := decide_eq_true c18
             clear c18
             simp only [Option.some.injEq, Prod.mk.injEq] at H
             obtain ⟨rfl, rfl⟩ := H
             have p140 : 0 ≤ (x13_1 : Int) := of_decide_eq_true (by first|(with_reducible assumption) | assumption)
             have q140 : x13_1 < (y136.length : Int) := of_decide_eq_true (by first|(with_reducible assumption) | assumption)
             obtain ⟨ad140, e140, hx140_0⟩ := Kd.at_int HR139.out x13_1 p140 q140
             cases e140
             replace hx140_0 := (HB.out.cell (World.block_lt_of_cell? w _ hx140_0)).trans hx140_0
             replace p140 := eq_true p140
             replace q140 := eq_true q140
             go_wp2
             go_ret2
             exact ⟨by first | rfl|(simp [errW_none,errW_some] <;> rfl)|(simp only [← hji2,← hji9,← hji11];first | rfl|(simp [errW_none,errW_some] <;> rfl))|(simp [*,errW_none,errW_some] <;> rfl),by repeat (first|(with_reducible first|exact HB.out|apply below_alloc|apply pw_below_drewN|apply below_drew1)|exact HB.out)⟩
            ·rw [if_neg c18] at H
             have c18b0 : decide (1 < (rd y136 x13_1)) = false := decide_eq_false c18
             clear c18
             simp only [Option.some.injEq, Prod.mk.injEq] at H
             obtain ⟨rfl, rfl⟩ := H
             have p140 : 0 ≤ (x13_1 : Int) := of_decide_eq_true (by first|(with_reducible assumption) | assumption)
             have q140 : x13_1 < (y136.length : Int) := of_decide_eq_true (by first|(with_reducible assumption) | assumption)
             obtain ⟨ad140, e140, hx140_0⟩ := Kd.at_int HR139.out x13_1 p140 q140
             cases e140
             replace hx140_0 := (HB.out.cell (World.block_lt_of_cell? w _ hx140_0)).trans hx140_0
             replace p140 := eq_true p140
             replace q140 := eq_true q140
             go_wp2
             go_ret2
             exact ⟨by first | rfl|(simp [errW_none,errW_some] <;> rfl)|(simp only [← hji2,← hji9,← hji11];first | rfl|(simp [errW_none,errW_some] <;> rfl))|(simp [*,errW_none,errW_some] <;> rfl),by repeat (first|(with_reducible first|exact HB.out|apply below_alloc|apply pw_below_drewN|apply below_drew1)|exact HB.out)⟩
           ·rw [if_neg c17] at H
            have c17b0 : (x13_1 == 9) = false := beq_eq_false_iff_ne.mpr c17
            have c17b1 : (x13_1 != 9) = true := bne_iff_ne.mpr c17
            simp only [Option.some.injEq, Prod.mk.injEq] at H
            obtain ⟨rfl, rfl⟩ := H
            have p140 : 0 ≤ (x13_1 : Int) := of_decide_eq_true (by first|(with_reducible assumption) | assumption)
            have q140 : x13_1 < (y136.length : Int) := of_decide_eq_true (by first|(with_reducible assumption) | assumption)
            obtain ⟨ad140, e140, hx140_0⟩ := Kd.at_int HR139.out x13_1 p140 q140
            cases e140
            replace hx140_0 := (HB.out.cell (World.block_lt_of_cell? w _ hx140_0)).trans hx140_0
            replace p140 := eq_true p140
            replace q140 := eq_true q140
            go_wp2
            go_ret2
            exact ⟨by first | rfl|(simp [errW_none,errW_some] <;> rfl)|(simp only [← hji2,← hji9,← hji11];first | rfl|(simp [errW_none,errW_some] <;> rfl))|(simp [*,errW_none,errW_some] <;> rfl),by repeat (first|(with_reducible first|exact HB.out|apply below_alloc|apply pw_below_drewN|apply below_drew1)|exact HB.out)⟩
        ·rw [if_neg c10] at H
         exact absurd H (by simp)
       ·rw [if_neg c8] at H
        exact absurd H (by simp)
      ·rw [if_neg c7] at H
       exact absurd H (by simp)
     ·rw [if_neg c6] at H
      have c6b0 : decide (x13_1 < (y136.length : Int)) = false := decide_eq_false c6
      clear c6
      simp only [Option.some.injEq, Prod.mk.injEq] at H
      obtain ⟨rfl, rfl⟩ := H
      go_wp2
      go_ret2
      exact ⟨by first | rfl|(simp [errW_none,errW_some] <;> rfl)|(simp only [← hji2];first | rfl|(simp [errW_none,errW_some] <;> rfl))|(simp [*,errW_none,errW_some] <;> rfl),by repeat (first|(with_reducible first|exact HB.out|apply below_alloc|apply pw_below_drewN|apply below_drew1)|exact HB.out)⟩
  ·rw [if_neg c4] at H
   exact absurd H (by simp)
 ·rw [if_neg c3] at H
  exact absurd H (by simp)

-- NOT PRINTED: function 75 (varint_Reader_step)

-- NOT PRINTED: function 60 (varint_Reader_Num)

/-! ### varint_GetText: function 76 -/
def varint_GetText.f (k : Nat) (l0 : List Int) : Option (ByteArray × Int) := (varint_Get.f k l0).bind fun bt143 => (if bt143.2 = 0 then (some ((⟨#[]⟩ : ByteArray),0)) else (if bt143.1 > (IntKind.u64.wrap (wrap64 ((l0.length : Int) - bt143.2))) then (some ((⟨#[]⟩ : ByteArray),0)) else (if 0 ≤ bt143.2 then (if bt143.2 ≤ (wrap64 (bt143.2 + (wrap64 (bt143.1)))) then (if (wrap64 (bt143.2 + (wrap64 (bt143.1)))) ≤ (l0.length : Int) then (some (strOfNums ((l0.take ((wrap64 (bt143.2 + (wrap64 (bt143.1)))) : Int).toNat).drop (bt143.2 : Int).toNat),wrap64 (bt143.2 + (wrap64 (bt143.1))))) else (none)) else (none)) else (none))))
theorem varint_GetText.mono : ∀ a0 k, LeO (varint_GetText.f k a0) (varint_GetText.f (k + 1) a0) := by
 intro a0 k
 unfold varint_GetText.f
 repeat' first
  |(with_reducible exact varint_Get.mono _ _)
  |(with_reducible exact LeO.refl _)
  |(with_reducible exact LeO.none _)
  |(with_reducible refine LeO.ite ?_ ?_)
  |(with_reducible refine LeO.bind ?_ (fun _ => ?_))
  |exact varint_Get.mono _ _
  |exact LeO.none _
  |refine LeO.ite ?_ ?_
  |refine LeO.bind ?_ (fun _ => ?_)
set_option maxHeartbeats 80000000 in
set_option maxRecDepth 100000 in
theorem varint_GetText.calls (k : Nat) (A0 : Option Addr) (c0 : Nat) (l0 : List Int) (r1 : ByteArray) (r2 : Int) (w : World) (hr0 : Kd.C (Kd.int .u8) w A0 l0.length l0) (hc0 : l0.length ≤ c0) (h : varint_GetText.f k l0 = some (r1,r2)) :
  Calls Try.prog 76 #[.slice A0 l0.length c0] w fun e w' => e = .returned (.tuple #[.string r1, .int .i64 r2]) ∧ Below w.heap.size w w' := by
 have HR0 := Aside0.mk hr0
 have HC0 := Aside0.mk hc0
 clear hr0 hc0
 have HB := Aside0.mk (Below.refl w.heap.size w)
 have H : ((varint_Get.f k l0).bind fun bt143 => (if bt143.2 = 0 then (some ((⟨#[]⟩ : ByteArray),0)) else (if bt143.1 > (IntKind.u64.wrap (wrap64 ((l0.length : Int) - bt143.2))) then (some ((⟨#[]⟩ : ByteArray),0)) else (if 0 ≤ bt143.2 then (if bt143.2 ≤ (wrap64 (bt143.2 + (wrap64 (bt143.1)))) then (if (wrap64 (bt143.2 + (wrap64 (bt143.1)))) ≤ (l0.length : Int) then (some (strOfNums ((l0.take ((wrap64 (bt143.2 + (wrap64 (bt143.1)))) : Int).toNat).drop (bt143.2 : Int).toNat),wrap64 (bt143.2 + (wrap64 (bt143.1))))) else (none)) else (none)) else (none))))) = some (r1,r2) := h
 clear h
 replace H := Option.bind_eq_some_iff.mp H
 obtain ⟨⟨t143, t144⟩, A20, H⟩ := H
 replace H : (if t144 = 0 then (some ((⟨#[]⟩ : ByteArray),0)) else (if t143 > (IntKind.u64.wrap (wrap64 ((l0.length : Int) - t144))) then (some ((⟨#[]⟩ : ByteArray),0)) else (if 0 ≤ t144 then (if t144 ≤ (wrap64 (t144 + (wrap64 (t143)))) then (if (wrap64 (t144 + (wrap64 (t143)))) ≤ (l0.length : Int) then (some (strOfNums ((l0.take ((wrap64 (t144 + (wrap64 (t143)))) : Int).toNat).drop (t144 : Int).toNat),wrap64 (t144 + (wrap64 (t143))))) else (none)) else (none)) else (none)))) = some (r1,r2) := H
 have A2 := Aside0.mk A20
 clear A20
 by_cases c3 : t144 = 0
 ·rw [if_pos c3] at H
  have c3b0 : (t144 == 0) = true := beq_iff_eq.mpr c3
  have c3b1 : (t144 != 0) = false := bne_eq_false_iff_eq.mpr c3
  clear c3
  simp only [Option.some.injEq, Prod.mk.injEq] at H
  obtain ⟨rfl, rfl⟩ := H
  go_enter Try.func76, Try.ntmps76
  go_wp2_with (first|((with_reducible refine gate_callee (f := 74) rfl ?_);refine goesL_ (some 8) rfl rfl Try.func74 (by kernel_rfl) rfl #[.slice A0 l0.length c0] rfl (by (try simp only [List.map_toArray,List.map_cons,List.map_nil]);first | done | rfl|(simp only [List.length_drop,List.length_take];rfl)) ?_;(with_reducible refine (varint_Get.calls k _ _ l0 t143 t144 _ ?side1 ?side2 A2.out).mono ?_);(case side1 => repeat (first|exact HR0.out|(with_reducible refine Kd.C_alloc ?_ _)|(with_reducible refine Kd.C_drewN ?_ _)|(with_reducible refine Kd.C_drew ?_)));(case side2 => exact HC0.out);rintro e w4 ⟨rfl,hb⟩;refine ⟨_,rfl,?_⟩;have n0_ := Aside0.mk (below_step (by repeat (first|(with_reducible first|exact HB.out|apply below_alloc|apply pw_below_drewN|apply below_drew1)|exact HB.out)) hb);clear HB;have HB := n0_;clear n0_;(try clear hb);(try clear hb2);(try clear hk);(try clear hi)))
  go_ret2
  exact ⟨by first | rfl|(simp [errW_none,errW_some] <;> rfl)|(simp [*,errW_none,errW_some] <;> rfl),by repeat (first|(with_reducible first|exact HB.out|apply below_alloc|apply pw_below_drewN|apply below_drew1)|exact HB.out)⟩
 ·rw [if_neg c3] at H
  have c3b0 : (t144 == 0) = false := beq_eq_false_iff_ne.mpr c3
  have c3b1 : (t144 != 0) = true := bne_iff_ne.mpr c3
  by_cases c5 : t143 > (IntKind.u64.wrap (wrap64 ((l0.length : Int) - t144)))
  ·rw [if_pos c5] at H
   have c5b0 : decide ((IntKind.u64.wrap (wrap64 ((l0.length : Int) - t144))) < t143) = true := decide_eq_true c5
   clear c5
   simp only [Option.some.injEq, Prod.mk.injEq] at H
   obtain ⟨rfl, rfl⟩ := H
   go_enter Try.func76, Try.ntmps76
   go_wp2_with (first|((with_reducible refine gate_callee (f := 74) rfl ?_);refine goesL_ (some 8) rfl rfl Try.func74 (by kernel_rfl) rfl #[.slice A0 l0.length c0] rfl (by (try simp only [List.map_toArray,List.map_cons,List.map_nil]);first | done | rfl|(simp only [List.length_drop,List.length_take];rfl)) ?_;(with_reducible refine (varint_Get.calls k _ _ l0 t143 t144 _ ?side1 ?side2 A2.out).mono ?_);(case side1 => repeat (first|exact HR0.out|(with_reducible refine Kd.C_alloc ?_ _)|(with_reducible refine Kd.C_drewN ?_ _)|(with_reducible refine Kd.C_drew ?_)));(case side2 => exact HC0.out);rintro e w6 ⟨rfl,hb⟩;refine ⟨_,rfl,?_⟩;have n0_ := Aside0.mk (below_step (by repeat (first|(with_reducible first|exact HB.out|apply below_alloc|apply pw_below_drewN|apply below_drew1)|exact HB.out)) hb);clear HB;have HB := n0_;clear n0_;(try clear hb);(try clear hb2);(try clear hk);(try clear hi)))
   go_ret2
   exact ⟨by first | rfl|(simp [errW_none,errW_some] <;> rfl)|(simp [*,errW_none,errW_some] <;> rfl),by repeat (first|(with_reducible first|exact HB.out|apply below_alloc|apply pw_below_drewN|apply below_drew1)|exact HB.out)⟩
  ·rw [if_neg c5] at H
   have c5b0 : decide ((IntKind.u64.wrap (wrap64 ((l0.length : Int) - t144))) < t143) = false := decide_eq_false c5
   clear c5
   by_cases c7 : 0 ≤ t144
   ·rw [if_pos c7] at H
    have c7b0 := eq_true c7
    have c7b1 : decide (0 ≤ t144) = true := decide_eq_true c7
    clear c7
    by_cases c8 : t144 ≤ (wrap64 (t144 + (wrap64 (t143))))
    ·rw [if_pos c8] at H
     have c8b0 := eq_true c8
     have c8b1 : decide (t144 ≤ (wrap64 (t144 + (wrap64 (t143))))) = true := decide_eq_true c8
     by_cases c9 : (wrap64 (t144 + (wrap64 (t143)))) ≤ (l0.length : Int)
     ·rw [if_pos c9] at H
      have c9b0 := eq_true c9
      have c9b1 : decide ((wrap64 (t144 + (wrap64 (t143)))) ≤ (l0.length : Int)) = true := decide_eq_true c9
      obtain ⟨y145, hy145⟩ : ∃ y_ : List Int, y_ = ((l0.take ((wrap64 (t144 + (wrap64 (t143)))) : Int).toNat).drop (t144 : Int).toNat) := ⟨_, rfl⟩
      replace H : (some (strOfNums y145,wrap64 (t144 + (wrap64 (t143))))) = some (r1,r2) := by first|(rw [hy145];with_reducible exact H)|(have H2_ := (Option.bind_some _ _).symm.trans H;rw [hy145];with_reducible exact H2_)|(have H2_ := (Option.bind_some _ _).symm.trans H;with_reducible exact H2_) | with_reducible exact H|(rw [hy145];exact H)|exact H
      have Ny145 := Aside0.mk hy145
      clear hy145
      simp only [Option.some.injEq, Prod.mk.injEq] at H
      obtain ⟨rfl, rfl⟩ := H
      go_enter Try.func76, Try.ntmps76
      go_wp2_with (first|((with_reducible refine gate_callee (f := 74) rfl ?_);refine goesL_ (some 8) rfl rfl Try.func74 (by kernel_rfl) rfl #[.slice A0 l0.length c0] rfl (by (try simp only [List.map_toArray,List.map_cons,List.map_nil]);first | done | rfl|(simp only [List.length_drop,List.length_take];rfl)) ?_;(with_reducible refine (varint_Get.calls k _ _ l0 t143 t144 _ ?side1 ?side2 A2.out).mono ?_);(case side1 => repeat (first|exact HR0.out|(with_reducible refine Kd.C_alloc ?_ _)|(with_reducible refine Kd.C_drewN ?_ _)|(with_reducible refine Kd.C_drew ?_)));(case side2 => exact HC0.out);rintro e w10 ⟨rfl,hb⟩;refine ⟨_,rfl,?_⟩;have n0_ := Aside0.mk (below_step (by repeat (first|(with_reducible first|exact HB.out|apply below_alloc|apply pw_below_drewN|apply below_drew1)|exact HB.out)) hb);clear HB;have HB := n0_;clear n0_;(try clear hb);(try clear hb2);(try clear hk);(try clear hi);have q11 : ((wrap64 (t144 + (wrap64 (t143)))) : Int) ≤ ((l0.length : Int) : Int) := of_decide_eq_true (by first|(with_reducible assumption) | assumption);obtain ⟨i011,hi011,_,hsz11,_⟩ := info_parts info5;have hroom11 : l0.length ≤ c0 := HC0.out;have hC11 : Kd.C (Kd.int .u8) _ A0 l0.length l0 := HR0.out;have ql11 : (t144 : Int) ≤ ((wrap64 (t144 + (wrap64 (t143)))) : Int) := of_decide_eq_true (by first|(with_reducible assumption) | assumption);have q011 : (0 : Int) ≤ (t144 : Int) := of_decide_eq_true (by first|(with_reducible assumption) | assumption);have hcut11 := cut_mid (P := Try.prog) 28 5 .i64 .i64 Try.underlying28 hi011 1 hsz11 A0 l0.length c0 t144 (wrap64 (t144 + (wrap64 (t143)))) q011 ql11 q11 hroom11;have hr11 := Kd.C_mid (lo := (t144 : Int).toNat) (hi := ((wrap64 (t144 + (wrap64 (t143)))) : Int).toNat) (c := c0) hC11 (by omega) (by omega) hroom11;obtain ⟨A11,hA11⟩ : ∃ A1,A1 = (if c0 = (t144 : Int).toNat then A0 else (A0 : Option Addr).map (·.add ((t144 : Int).toNat * 1))) := ⟨_,rfl⟩;obtain ⟨c11,hc11⟩ : ∃ c1,c1 = c0 - (t144 : Int).toNat := ⟨_,rfl⟩;have hy11 : y145.length = ((wrap64 (t144 + (wrap64 (t143)))) : Int).toNat - (t144 : Int).toNat := (by rw [Ny145.out,List.length_drop,List.length_take] <;> omega);rw [show ((l0).take ((wrap64 (t144 + (wrap64 (t143)))) : Int).toNat).drop (t144 : Int).toNat = y145 from Ny145.out.symm] at hr11;replace hr11 : Kd.C (Kd.int .u8) _ A11 y145.length y145 := (by rw [hA11];exact hr11);rw [← hy11,← hA11,← hc11] at hcut11;have HR148 := Aside0.mk hr11;have HC148 := Aside0.mk (show y145.length ≤ c11 from by rw [hy11,hc11];exact Nat.sub_le_sub_right (Nat.le_trans (by omega) hroom11) _);clear hr11 hC11 hroom11 hi011 hsz11 hc11;have KY11 := Aside0.mk hy11;have KA11 := Aside0.mk hA11;clear hy11 hA11;replace q11 := eq_true q11;(try have hcv12 := fun n_ => Kd.C_string (P := Try.prog) (A := A11) (c := c11) Try.underlying28 Try.underlying5 Try.underlying9 (Kd.C_drewN (Kd.C_below HR148.out HB.out) n_));have hcv13 := Kd.C_string (P := Try.prog) (A := A11) (c := c11) Try.underlying28 Try.underlying5 Try.underlying9 (Kd.C_below HR148.out HB.out)))
      go_ret2
      exact ⟨by first | rfl|(simp [errW_none,errW_some] <;> rfl)|(simp [*,errW_none,errW_some] <;> rfl),by repeat (first|(with_reducible first|exact HB.out|apply below_alloc|apply pw_below_drewN|apply below_drew1)|exact HB.out)⟩
     ·rw [if_neg c9] at H
      exact absurd H (by simp)
    ·rw [if_neg c8] at H
     exact absurd H (by simp)
   ·rw [if_neg c7] at H
    exact absurd H (by simp)

-- NOT PRINTED: function 61 (varint_Reader_Text)

end Go.Proofs.Ytoglanahjlfihaa.MEdt
