-- Written by a program of this session for this claim (out of the translation's print); Lean checks it.
import Derived.Test.YtoglanahjlfihaaMEdtx0
import Derived.Test.YtoglanahjlfihaaMEdtx1
import Derived.Test.YtoglanahjlfihaaMEdtx2
namespace Go.Proofs.Ytoglanahjlfihaa.MEdt
open Go.RowKit Go.Proofs.YtoglanahjlfihaaW.PrintWords Go.Proofs.YtoglanahjlfihaaW.PrintLast Go.Proofs.YtoglanahjlfihaaW.PrintMore
attribute [local go_sem] max2_int min2_int max_two min_two max_three min_three max_four min_four   -- for this text's walks alone
set_option linter.unusedVariables false
set_option linter.unusedSimpArgs false

/-- A state of type 103 at block g of W; what its slices lead to came in by w0. -/
def IsS103 (w0 W : World) (g : Nat) (f0 : List Int) (f1 : Bool) : Prop := ∃ A0 c0,W.heap[g]? = some (.cells #[.slice A0 f0.length c0,.bool f1] 103 (0,0)) ∧ w0.heap.size ≤ g ∧ Kd.C (Kd.int .u8) w0 A0 f0.length f0
theorem IsS103.grown {w0 W : World} {g : Nat} {f0 : List Int} {f1 : Bool} {W1 : World} {row : Option Nat} (h : IsS103 w0 W g f0 f1) (hw : W.grownBy W1 row) (hne : some g ≠ row) : IsS103 w0 W1 g f0 f1 := by
 obtain ⟨A0, c0, hb, hg, hr0⟩ := h
 exact ⟨A0, c0, blk_grown hb hw hne, hg, hr0⟩
theorem IsS103.own_neN {w0 W : World} {g : Nat} {f0 : List Int} {f1 : Bool} {α : Type} {d : Kd α} {e : Nat} {base : Nat} {ok : Nat → Prop} {v : Value} {xs : List α} (h : IsS103 w0 W g f0 f1) (ho : Kd.N d e W base ok v xs) (ht : e ≠ 103) : some g ≠ v.ownBlock := by
 obtain ⟨A0, c0, hb, hg, hr0⟩ := h
 exact Kd.N_ne ho hb ht
theorem IsS103.fresh {w0 W : World} {g : Nat} {f0 : List Int} {f1 : Bool} (h : IsS103 w0 W g f0 f1) : ∀ k, W.heap.size ≤ k → k ≠ g := by
 obtain ⟨A0, c0, hb, hg, hr0⟩ := h
 exact Kd.freshB hb
theorem IsS103.kept {w0 W : World} {g : Nat} {f0 : List Int} {f1 : Bool} {W1 : World} {S : Nat → Prop} (h : IsS103 w0 W g f0 f1) (hk : Kept W W1 S) (hne : ¬ S g) : IsS103 w0 W1 g f0 f1 := by
 obtain ⟨A0, c0, hb, hg, hr0⟩ := h
 exact ⟨A0, c0, blk_kept hb hk hne, hg, hr0⟩
theorem IsS103.below {w0 W : World} {g : Nat} {f0 : List Int} {f1 : Bool} {W1 : World} (h : IsS103 w0 W g f0 f1) (hw : Below W.heap.size W W1) : IsS103 w0 W1 g f0 f1 := h.grown (grown_of_below hw none) (by simp)
theorem IsS103.alloc {w0 W : World} {g : Nat} {f0 : List Int} {f1 : Bool} (h : IsS103 w0 W g f0 f1) (o : Obj) : IsS103 w0 (W.alloc o) g f0 f1 := h.below (below_alloc (Below.refl _ _) o)
theorem IsS103.drewN {w0 W : World} {g : Nat} {f0 : List Int} {f1 : Bool} (h : IsS103 w0 W g f0 f1) (m : Nat) : IsS103 w0 (W.drewN m) g f0 f1 := h
theorem IsS103.drew {w0 W : World} {g : Nat} {f0 : List Int} {f1 : Bool} (h : IsS103 w0 W g f0 f1) : IsS103 w0 W.drew g f0 f1 := h
theorem IsS103.at_ {w0 W : World} {g : Nat} {f0 : List Int} {f1 : Bool} {w' : World} {m : Nat} (hq : W.drewN m = w') (h : IsS103 w0 W g f0 f1) : IsS103 w0 w' g f0 f1 := by subst hq;exact IsS103.drewN h m
theorem IsS103.apart {w0 W : World} {g : Nat} {f0 : List Int} {f1 : Bool} {α : Type} {d : Kd α} {e : Nat} {base : Nat} {ok : Nat → Prop} {v : Value} {xs : List α} (h : IsS103 w0 W g f0 f1) (ho : d.R e W base ok v xs) (ht : ∀ q,q ∈ e :: d.E → q ≠ 103) : d.R e W base (fun k => ok k ∧ k ≠ g) v xs := by
 obtain ⟨A0, c0, hb, hg, hr0⟩ := h
 exact Kd.R_types ho hb ht
theorem IsS103.own_ne {w0 W : World} {g : Nat} {f0 : List Int} {f1 : Bool} {α : Type} {d : Kd α} {e : Nat} {base : Nat} {ok : Nat → Prop} {v : Value} {xs : List α} (h : IsS103 w0 W g f0 f1) (ho : d.R e W base ok v xs) (ht : e ≠ 103) : some g ≠ v.ownBlock := by
 obtain ⟨A0, c0, hb, hg, hr0⟩ := h
 exact Kd.R_ne ho hb ht
theorem IsS103.apartQ {w0 W : World} {g : Nat} {f0 : List Int} {f1 : Bool} {α : Type} {d : Kd α} {e : Nat} {base : Nat} {ok : Nat → Prop} {v : Value} {xs : List α} (h : IsS103 w0 W g f0 f1) (ho : d.Q e W base ok v xs) (ht : ∀ q,q ∈ e :: d.E → q ≠ 103) : d.Q e W base (fun k => ok k ∧ k ≠ g) v xs := by
 obtain ⟨A0, c0, hb, hg, hr0⟩ := h
 exact Kd.Q_types ho hb ht
theorem IsS103.own_neQ {w0 W : World} {g : Nat} {f0 : List Int} {f1 : Bool} {α : Type} {d : Kd α} {e : Nat} {base : Nat} {ok : Nat → Prop} {v : Value} {xs : List α} (h : IsS103 w0 W g f0 f1) (ho : d.Q e W base ok v xs) (ht : e ≠ 103) : some g ≠ v.ownBlock := by
 obtain ⟨A0, c0, hb, hg, hr0⟩ := h
 exact Kd.Q_ne ho hb ht
theorem IsS103.apartS {w0 W : World} {g : Nat} {f0 : List Int} {f1 : Bool} {α : Type} {d : Kd α} {e : Nat} {base : Nat} {ok : Nat → Prop} {v : Value} {xs : List α} (h : IsS103 w0 W g f0 f1) (ho : d.S e W base ok v xs) (ht : ∀ q,q ∈ e :: d.E → q ≠ 103) : d.S e W base (fun k => ok k ∧ k ≠ g) v xs := by
 obtain ⟨A0, c0, hb, hg, hr0⟩ := h
 exact Kd.S_types ho hb ht
theorem IsS103.own_neS {w0 W : World} {g : Nat} {f0 : List Int} {f1 : Bool} {α : Type} {d : Kd α} {e : Nat} {base : Nat} {ok : Nat → Prop} {v : Value} {xs : List α} (h : IsS103 w0 W g f0 f1) (ho : d.S e W base ok v xs) (ht : e ≠ 103) : some g ≠ v.ownBlock := by
 obtain ⟨A0, c0, hb, hg, hr0⟩ := h
 exact Kd.S_ne ho hb ht
theorem IsS103.lt {w0 W : World} {g : Nat} {f0 : List Int} {f1 : Bool} (h : IsS103 w0 W g f0 f1) : g < W.heap.size := by
 obtain ⟨A0, c0, hb, hg, hr0⟩ := h
 exact blk_lt hb
theorem IsS103.ge {w0 W : World} {g : Nat} {f0 : List Int} {f1 : Bool} (h : IsS103 w0 W g f0 f1) : w0.heap.size ≤ g := by
 obtain ⟨A0, c0, hb, hg, hr0⟩ := h
 exact hg
theorem IsS103.ne_blk {w0 W : World} {g : Nat} {f0 : List Int} {f1 : Bool} {a : Nat} {cs : Array Value} {t : TypeId} {fr : Nat × Nat} (h : IsS103 w0 W g f0 f1) (hb2 : W.heap[a]? = some (.cells cs t fr)) (ht : t ≠ 103) : g ≠ a := by
 obtain ⟨A0, c0, hb, hg, hr0⟩ := h
 rintro rfl
 rw [hb] at hb2
 injection hb2 with hb2
 injection hb2 with _ ht2
 exact ht ht2.symm
theorem IsS103.far {w0 W : World} {g : Nat} {f0 : List Int} {f1 : Bool} {p : Addr} (h : IsS103 w0 W g f0 f1) (hne : g ≠ p.block) (u : Value) : IsS103 w0 (W.setCell p u) g f0 f1 := by
 obtain ⟨A0, c0, hb, hg, hr0⟩ := h
 exact ⟨A0, c0, blk_far hb hne u, hg, hr0⟩
theorem cellS103_0 {W : World} {g : Nat} {A0 : Option Addr} {c0 : Nat} {f0 : List Int} {f1 : Bool} (h : W.heap[g]? = some (.cells #[.slice A0 f0.length c0,.bool f1] 103 (0,0))) : W.cell? ⟨g,0,none⟩ = some (.slice A0 f0.length c0) := (blk_cell h 0).trans rfl
theorem cellS103_1 {W : World} {g : Nat} {A0 : Option Addr} {c0 : Nat} {f0 : List Int} {f1 : Bool} (h : W.heap[g]? = some (.cells #[.slice A0 f0.length c0,.bool f1] 103 (0,0))) : W.cell? ⟨g,1,none⟩ = some (.bool f1) := (blk_cell h 1).trans rfl
theorem IsS103.set_1 {w0 W : World} {g : Nat} {f0 : List Int} {f1 : Bool} (h : IsS103 w0 W g f0 f1) (x : Bool) : IsS103 w0 (W.setCell ⟨g, 1, none⟩ (.bool x)) g f0 x := by
 obtain ⟨A0, c0, hb, hg, hr0⟩ := h
 exact ⟨A0, c0, by simpa using blk_set hb 1 (.bool x), hg, hr0⟩
theorem IsS103.new (w0 W : World) (A0 : Option Addr) (c0 : Nat) (f0 : List Int) (f1 : Bool) (hB : Below w0.heap.size w0 W) (hr0 : Kd.C (Kd.int .u8) w0 A0 f0.length f0) : IsS103 w0 (W.alloc (.cells #[.slice A0 f0.length c0,.bool f1] 103)) W.heap.size f0 f1 := ⟨A0,c0,by simpa using heap_alloc_new W _,hB.size,hr0⟩

/-! ### varint_Reader_Done: function 62 -/
def varint_Reader_Done.f (s0_0 : List Int) (s0_1 : Bool) : Option (Bool × Bool) := if s0_1 = true then (some (false, s0_1)) else (some (((s0_0.length : Int) == 0), s0_1))
set_option maxHeartbeats 80000000 in
set_option maxRecDepth 100000 in
theorem varint_Reader_Done.calls (g : Nat) (s0_0 : List Int) (s0_1 : Bool) (r1 : Bool) (r2 : Bool) (w0 w : World) (hI : IsS103 w0 w g s0_0 s0_1) (hB : Below w0.heap.size w0 w) (h : varint_Reader_Done.f s0_0 s0_1 = some (r1,r2)) :
  Calls Try.prog 62 #[.pointer (some ⟨g, 0, none⟩)] w fun e w' => e = .returned (.bool r1) ∧ IsS103 w0 w' g s0_0 r2 ∧ Below w0.heap.size w0 w' ∧ KeepBut w w' g none := by
 have HI0 := Aside0.mk hI
 have HK := Aside0.mk (KeepBut.refl w g none)
 have HL := Aside0.mk hB.size
 clear hI
 have HW0 := Aside0.mk hB.size
 have HB := Aside0.mk hB
 clear hB
 have H : (if s0_1 = true then (some (false, s0_1)) else (some (((s0_0.length : Int) == 0), s0_1))) = some (r1, r2) := h
 clear h
 by_cases c2 : s0_1 = true
 ·subst c2
  have H1 : (some (false, true)) = some (r1, r2) := by rw [if_pos rfl] at H; exact H
  clear H
  have H := H1
  clear H1
  simp only [Option.some.injEq, Prod.mk.injEq] at H
  obtain ⟨rfl, rfl⟩ := H
  obtain ⟨ASz3_0, cSz3_0, HGz3, hgz3, HSz3_0⟩ := HI0.out
  have hcz3_0 := cellS103_0 HGz3
  have hcz3_1 := cellS103_1 HGz3
  have hfz3_1 := blk_frozen HGz3 1
  clear HGz3 hgz3
  go_enter Try.func62, Try.ntmps62
  go_wp2
  go_ret
  exact ⟨by first | rfl|(simp [errW_none,errW_some] <;> rfl)|(simp [*,errW_none,errW_some] <;> rfl),by repeat (first|(with_reducible first|exact HI0.out|apply IsS103.alloc|apply IsS103.drewN|apply IsS103.drew|apply IsS103.set_1)|exact HI0.out),by repeat (first|(with_reducible first|exact HB.out|apply below_alloc|apply pw_below_drewN|apply below_drew1|refine below_set ?_ (IsS103.ge HI0.out))|exact HB.out),by repeat (first|(with_reducible first|exact HK.out|apply KeepBut.set_|apply keep_drewN|apply keep_drew|apply keep_alloc)|exact HK.out)⟩
 ·replace c2 := Bool.eq_false_iff.mpr c2
  subst c2
  have H1 : (some (((s0_0.length : Int) == 0), false)) = some (r1, r2) := by rw [if_neg (show ¬ (false = true) by decide)] at H; exact H
  clear H
  have H := H1
  clear H1
  simp only [Option.some.injEq, Prod.mk.injEq] at H
  obtain ⟨rfl, rfl⟩ := H
  obtain ⟨ASz4_0, cSz4_0, HGz4, hgz4, HSz4_0⟩ := HI0.out
  have hcz4_0 := cellS103_0 HGz4
  have hcz4_1 := cellS103_1 HGz4
  have hfz4_1 := blk_frozen HGz4 1
  clear HGz4 hgz4
  go_enter Try.func62, Try.ntmps62
  go_wp2
  go_ret
  exact ⟨by first | rfl|(simp [errW_none,errW_some] <;> rfl)|(simp [*,errW_none,errW_some] <;> rfl),by repeat (first|(with_reducible first|exact HI0.out|apply IsS103.alloc|apply IsS103.drewN|apply IsS103.drew|apply IsS103.set_1)|exact HI0.out),by repeat (first|(with_reducible first|exact HB.out|apply below_alloc|apply pw_below_drewN|apply below_drew1|refine below_set ?_ (IsS103.ge HI0.out))|exact HB.out),by repeat (first|(with_reducible first|exact HK.out|apply KeepBut.set_|apply keep_drewN|apply keep_drew|apply keep_alloc)|exact HK.out)⟩

/-! ### bytes_Equal: function 63 -/
def bytes_Equal.f (l0 : List Int) (l1 : List Int) : Option (Bool) := some ((strOfNums l0).toList == (strOfNums l1).toList)
set_option maxHeartbeats 80000000 in
set_option maxRecDepth 100000 in
theorem bytes_Equal.calls (A0 : Option Addr) (c0 : Nat) (l0 : List Int) (A1 : Option Addr) (c1 : Nat) (l1 : List Int) (r : Bool) (w : World) (hr0 : Kd.C (Kd.int .u8) w A0 l0.length l0) (hc0 : l0.length ≤ c0) (hr1 : Kd.C (Kd.int .u8) w A1 l1.length l1) (hc1 : l1.length ≤ c1) (h : bytes_Equal.f l0 l1 = some r) :
  Calls Try.prog 63 #[.slice A0 l0.length c0, .slice A1 l1.length c1] w fun e w' => e = .returned (.bool r) ∧ Drawn0 w w' := by
 have HR0 := Aside0.mk hr0
 have HC0 := Aside0.mk hc0
 clear hr0 hc0
 have HR1 := Aside0.mk hr1
 have HC1 := Aside0.mk hc1
 clear hr1 hc1
 have H : (some ((strOfNums l0).toList == (strOfNums l1).toList)) = some r := h
 clear h
 obtain rfl := Option.some.inj H
 simp only [Option.some.injEq, Prod.mk.injEq] at H
 obtain ⟨rfl⟩ := H
 have hcv3 := fun n_ => Kd.C_string (P := Try.prog) (A := A0) (c := c0) Try.underlying28 Try.underlying5 Try.underlying9 (Kd.C_drewN HR0.out n_)
 have hcv4 := Kd.C_string (P := Try.prog) (A := A0) (c := c0) Try.underlying28 Try.underlying5 Try.underlying9 HR0.out
 have hcv5 := fun n_ => Kd.C_string (P := Try.prog) (A := A1) (c := c1) Try.underlying28 Try.underlying5 Try.underlying9 (Kd.C_drewN HR1.out n_)
 have hcv6 := Kd.C_string (P := Try.prog) (A := A1) (c := c1) Try.underlying28 Try.underlying5 Try.underlying9 HR1.out
 go_enter Try.func63, Try.ntmps63
 go_wp2
 go_ret
 exact ⟨by first | rfl|(simp; done)|(simp [*]; done), by repeat (first|exact Drawn0.refl _|apply Drawn0.step)⟩

/-! ### edit_Decode: function 28, by hand, with varint.Reader -/
/-- A reader that stands in a block of its own; what it reads came in. -/
def RdI (w0 w : World) (g : Nat) (l : List Int) (bad : Bool) : Prop := w0.heap.size ≤ g ∧ Below w0.heap.size w0 w ∧ ∃ A c,w.heap[g]? = some (.cells #[.slice A l.length c,.bool bad] 103 (0,0)) ∧ Kd.C (Kd.int .u8) w0 A l.length l ∧ l.length ≤ c
def stepF (l : List Int) (bad : Bool) (n : Int) : Option (List Int × Bool) :=
 if bad = true then some ([], true) else if n = 0 then some ([], true) else if 0 ≤ n ∧ n ≤ (l.length : Int) then some (l.drop n.toNat, false) else none
set_option maxHeartbeats 4000000 in
theorem varint_Reader_step.calls (g : Nat) (l : List Int) (bad : Bool) (n : Int) (l' : List Int) (bad' : Bool) (w0 w : World) (hI : RdI w0 w g l bad) (h : stepF l bad n = some (l', bad')) :
  Calls Try.prog 75 #[.pointer (some ⟨g, 0, none⟩), .int .i64 n] w fun e w' => e = .returned (.tuple #[]) ∧ RdI w0 w' g l' bad' ∧ KeepBut w w' g none := by
 obtain ⟨hg, hB, A, c, hC, hR, hlc⟩ := hI
 have HB := Aside0.mk hB
 have HR := Aside0.mk hR
 have HC := Aside0.mk hC
 clear hB hR hC
 have hc0 := (blk_cell HC.out 0).trans rfl
 have hc1 := (blk_cell HC.out 1).trans rfl
 have hf0 := blk_frozen HC.out 0
 have hf1 := blk_frozen HC.out 1
 unfold stepF at h
 cases bad with
 | true =>
  rw [if_pos rfl] at h
  simp only [Option.some.injEq, Prod.mk.injEq] at h
  obtain ⟨rfl, rfl⟩ := h
  go_enter Try.func75, Try.ntmps75
  go_wp2
  refine bodyPost_ret (results_none rfl _ _ _) rfl ?_
  refine ⟨rfl, ⟨hg, below_set (below_set HB.out hg) hg, none, 0, blk_set (blk_set HC.out 1 _) 0 _, Kd.C_nil _ _, Nat.le_refl _⟩, KeepBut.set_ (KeepBut.set_ (KeepBut.refl _ _ _) 1 _) 0 _⟩
 | false =>
  rw [if_neg (by simp)] at h
  by_cases h0 : n = 0
  ·rw [if_pos h0] at h
   simp only [Option.some.injEq, Prod.mk.injEq] at h
   obtain ⟨rfl, rfl⟩ := h
   subst h0
   go_enter Try.func75, Try.ntmps75
   go_wp2
   refine bodyPost_ret (results_none rfl _ _ _) rfl ?_
   refine ⟨rfl, ⟨hg, below_set (below_set HB.out hg) hg, none, 0, blk_set (blk_set HC.out 1 _) 0 _, Kd.C_nil _ _, Nat.le_refl _⟩, KeepBut.set_ (KeepBut.set_ (KeepBut.refl _ _ _) 1 _) 0 _⟩
  ·rw [if_neg h0] at h
   by_cases hn : 0 ≤ n ∧ n ≤ (l.length : Int)
   ·rw [if_pos hn] at h
    simp only [Option.some.injEq, Prod.mk.injEq] at h
    obtain ⟨rfl, rfl⟩ := h
    have h0b : (n == 0) = false := beq_eq_false_iff_ne.mpr h0
    obtain ⟨i0, hi0, _, hsz, _⟩ := info_parts info5
    have hcut := cut_from (P := Try.prog) 28 5 .i64 Try.underlying28 hi0 1 hsz A l.length c n hn.1 hn.2
    have hr := Kd.C_drop (m := n.toNat) (c := c) HR.out (by omega) hlc
    have hsz1 : (Kd.int .u8).sz = 1 := rfl
    obtain ⟨A1, hA1⟩ : ∃ A1, Aside0 (A1 = (if c = n.toNat then A else A.map (·.add (n.toNat * 1)))) := ⟨_, ⟨rfl⟩⟩
    obtain ⟨c1, hc1_⟩ : ∃ c1, Aside0 (c1 = c - n.toNat) := ⟨_, ⟨rfl⟩⟩
    have hy : (l.drop n.toNat).length = l.length - n.toNat := List.length_drop
    rw [← hA1.out, ← hc1_.out, ← hy] at hcut
    have HR1 := Aside0.mk (show Kd.C (Kd.int .u8) w0 A1 (l.drop n.toNat).length (l.drop n.toNat) by rw [hA1.out]; exact hr)
    have HL1 : Aside0 ((l.drop n.toNat).length ≤ c1) := ⟨by rw [hc1_.out, hy]; omega⟩
    clear hr hy
    generalize l.drop n.toNat = l1 at hcut HR1 HL1
    go_enter Try.func75, Try.ntmps75
    go_wp2
    go_end0
    refine ⟨rfl, ⟨hg, below_set (below_set HB.out hg) hg, A1, c1, blk_set (blk_set HC.out 1 _) 0 _, HR1.out, HL1.out⟩, KeepBut.set_ (KeepBut.set_ (KeepBut.refl _ _ _) 1 _) 0 _⟩
   ·rw [if_neg hn] at h; cases h
theorem RdI.below {w0 w w' : World} {g : Nat} {l : List Int} {bad : Bool} (h : RdI w0 w g l bad) (hb : Below w.heap.size w w') : RdI w0 w' g l bad := by
 obtain ⟨h1, h2, A, c, h3, h4, h5⟩ := h
 exact ⟨h1, below_step h2 hb, A, c, (hb.block g (blk_lt h3)).trans h3, h4, h5⟩
def numF (k : Nat) (l : List Int) (bad : Bool) (most : Int) : Option (Int × List Int × Bool) :=
 (varint_Get.f k l).bind fun p => (stepF l bad (if p.1 > IntKind.u64.wrap most then 0 else p.2)).bind fun q => some (if q.2 = true then 0 else wrap64 p.1, q.1, q.2)
def textF (k : Nat) (l : List Int) (bad : Bool) : Option (ByteArray × List Int × Bool) :=
 (varint_GetText.f k l).bind fun p => (stepF l bad p.2).bind fun q => some (if q.2 = true then ⟨#[]⟩ else p.1, q.1, q.2)
set_option maxHeartbeats 4000000 in
theorem varint_Reader_Num.calls (k g : Nat) (l : List Int) (bad : Bool) (most v : Int) (l' : List Int) (bad' : Bool) (w0 w : World) (hI : RdI w0 w g l bad) (h : numF k l bad most = some (v,l',bad')) :
  Calls Try.prog 60 #[.pointer (some ⟨g, 0, none⟩), .int .i64 most] w fun e w' => e = .returned (.int .i64 v) ∧ RdI w0 w' g l' bad' ∧ KeepBut w w' g none := by
 unfold numF at h
 obtain ⟨⟨r1, r2⟩, hget, h⟩ := Option.bind_eq_some_iff.mp h
 obtain ⟨⟨l1, b1⟩, hst, h⟩ := Option.bind_eq_some_iff.mp h
 simp only [Option.some.injEq, Prod.mk.injEq] at h
 obtain ⟨rfl, rfl, rfl⟩ := h
 have HI := Aside0.mk hI
 obtain ⟨hg, hB, A, c, hC, hR, hlc⟩ := hI
 have HG := Aside0.mk hget
 have HS := Aside0.mk hst
 have HB := Aside0.mk hB
 have HR := Aside0.mk hR
 have hc0 := (blk_cell hC 0).trans rfl
 clear hB hR hC hget hst
 by_cases hgt : r1 > IntKind.u64.wrap most
 ·have hgt1 : (IntKind.u64.wrap most < r1) = True := eq_true hgt
  have HS2 : Aside0 (stepF l bad 0 = some (l1, b1)) := ⟨by have h_ := HS.out; simp only [if_pos hgt] at h_; exact h_⟩
  clear HS hgt
  cases b1
  all_goals go_enter Try.func60, Try.ntmps60
  all_goals go_wp2_with (first|(go_at_call 74;refine (varint_Get.calls k A c l r1 r2 w (Kd.C_below HR.out HB.out) hlc HG.out).mono ?_;rintro e w2 ⟨rfl,hb⟩;have HI2 := Aside0.mk (HI.out.below hb);have HB2 := Aside0.mk hb;clear hb)|(go_at_call 75;refine (varint_Reader_step.calls g l bad 0 l1 _ w0 w2 HI2.out HS2.out).mono ?_;rintro e w3 ⟨rfl,hI3,hk3⟩;have HI3 := Aside0.mk hI3;have HK3 := Aside0.mk (KeepBut.trans (KeepBut.of_below HB2.out g none) hk3 (.inl rfl));obtain ⟨A3,c3,hC3⟩ := hI3.2.2;have hd1 := (blk_cell hC3.1 1).trans rfl;clear hI3 hk3 hC3))
  all_goals go_ret
  all_goals exact ⟨by first | rfl | simp, HI3.out, HK3.out⟩
 ·have hgt1 : (IntKind.u64.wrap most < r1) = False := eq_false hgt
  have HS2 : Aside0 (stepF l bad r2 = some (l1, b1)) := ⟨by have h_ := HS.out; simp only [if_neg hgt] at h_; exact h_⟩
  clear HS hgt
  cases b1
  all_goals go_enter Try.func60, Try.ntmps60
  all_goals go_wp2_with (first|(go_at_call 74;refine (varint_Get.calls k A c l r1 r2 w (Kd.C_below HR.out HB.out) hlc HG.out).mono ?_;rintro e w2 ⟨rfl,hb⟩;have HI2 := Aside0.mk (HI.out.below hb);have HB2 := Aside0.mk hb;clear hb)|(go_at_call 75;refine (varint_Reader_step.calls g l bad r2 l1 _ w0 w2 HI2.out HS2.out).mono ?_;rintro e w3 ⟨rfl,hI3,hk3⟩;have HI3 := Aside0.mk hI3;have HK3 := Aside0.mk (KeepBut.trans (KeepBut.of_below HB2.out g none) hk3 (.inl rfl));obtain ⟨A3,c3,hC3⟩ := hI3.2.2;have hd1 := (blk_cell hC3.1 1).trans rfl;clear hI3 hk3 hC3))
  all_goals go_ret
  all_goals exact ⟨by first | rfl | simp, HI3.out, HK3.out⟩
set_option maxHeartbeats 4000000 in
theorem varint_Reader_Text.calls (k g : Nat) (l : List Int) (bad : Bool) (v : ByteArray) (l' : List Int) (bad' : Bool) (w0 w : World) (hI : RdI w0 w g l bad) (h : textF k l bad = some (v, l', bad')) :
  Calls Try.prog 61 #[.pointer (some ⟨g, 0, none⟩)] w fun e w' => e = .returned (.string v) ∧ RdI w0 w' g l' bad' ∧ KeepBut w w' g none := by
 unfold textF at h
 obtain ⟨⟨r1, r2⟩, hget, h⟩ := Option.bind_eq_some_iff.mp h
 obtain ⟨⟨l1, b1⟩, hst, h⟩ := Option.bind_eq_some_iff.mp h
 simp only [Option.some.injEq, Prod.mk.injEq] at h
 obtain ⟨rfl, rfl, rfl⟩ := h
 have HI := Aside0.mk hI
 obtain ⟨hg, hB, A, c, hC, hR, hlc⟩ := hI
 have HG := Aside0.mk hget
 have HS := Aside0.mk hst
 have HB := Aside0.mk hB
 have HR := Aside0.mk hR
 have hc0 := (blk_cell hC 0).trans rfl
 clear hB hR hC hget hst
 cases b1
 all_goals go_enter Try.func61, Try.ntmps61
 all_goals go_wp2_with (first|(go_at_call 76;refine (varint_GetText.calls k A c l r1 r2 w (Kd.C_below HR.out HB.out) hlc HG.out).mono ?_;rintro e w2 ⟨rfl,hb⟩;have HI2 := Aside0.mk (HI.out.below hb);have HB2 := Aside0.mk hb;clear hb)|(go_at_call 75;refine (varint_Reader_step.calls g l bad r2 l1 _ w0 w2 HI2.out HS.out).mono ?_;rintro e w3 ⟨rfl,hI3,hk3⟩;have HI3 := Aside0.mk hI3;have HK3 := Aside0.mk (KeepBut.trans (KeepBut.of_below HB2.out g none) hk3 (.inl rfl));obtain ⟨A3,c3,hC3⟩ := hI3.2.2;have hd1 := (blk_cell hC3.1 1).trans rfl;clear hI3 hk3 hC3))
 all_goals go_ret
 all_goals exact ⟨by first | rfl | simp, HI3.out, HK3.out⟩
theorem Reader_Done_calls (g : Nat) (l : List Int) (bad : Bool) (w0 w : World) (hI : RdI w0 w g l bad) :
  Calls Try.prog 62 #[.pointer (some ⟨g, 0, none⟩)] w fun e w' => e = .returned (.bool (!bad && (l.length : Int) == 0)) ∧ RdI w0 w' g l bad ∧ KeepBut w w' g none := by
 have HI := Aside0.mk hI
 obtain ⟨hg, hB, A, c, hC, hR, hlc⟩ := hI
 have hc0 := (blk_cell hC 0).trans rfl
 have hc1 := (blk_cell hC 1).trans rfl
 clear hB hR hC
 cases bad
 all_goals go_enter Try.func62, Try.ntmps62
 all_goals go_wp2
 all_goals go_ret
 all_goals exact ⟨by first | rfl | simp, HI.out, KeepBut.refl _ _ _⟩
theorem alloc_newD_ (W : World) (o : Obj) (g : Nat) (h : g = W.heap.size) : (W.alloc o).heap[g]? = some o := by subst h; exact Array.getElem?_push_size
def decFiles (k : Nat) : Nat → List Int → Bool → List S55 → Option (List S55 × List Int × Bool)
 | 0, l, b, acc => some (acc, l, b)
 | m + 1,l,b,acc => (numF k l b 1125899906842624).bind fun p1 => (numF k p1.2.1 p1.2.2 5).bind fun p2 => (numF k p2.2.1 p2.2.2 16777216).bind fun p3 => (textF k p3.2.1 p3.2.2).bind fun s1 => (textF k s1.2.1 s1.2.2).bind fun s2 => if acc.length < 1000000 then decFiles k m s2.2.1 s2.2.2 (acc ++ [⟨p1.1,p2.1,p3.1,s1.1,s2.1⟩]) else none
def decDels (k : Nat) : Nat → List Int → Bool → List Int → Option (List Int × List Int × Bool)
 | 0, l, b, acc => some (acc, l, b)
 | m + 1, l, b, acc => (numF k l b 1125899906842624).bind fun p1 => if acc.length < 1000000 then decDels k m p1.2.1 p1.2.2 (acc ++ [p1.1]) else none
def edit_Decode.f (k : Nat) (l0 : List Int) : Option (Int × Int × Int × List S55 × List Int × Int) :=
 (numF k l0 false 1125899906842624).bind fun p1 => (numF k p1.2.1 p1.2.2 1125899906842624).bind fun p2 => (numF k p2.2.1 p2.2.2 1125899906842624).bind fun p3 =>
 (numF k p3.2.1 p3.2.2 200).bind fun p4 => (decFiles k p4.1.toNat p4.2.1 p4.2.2 []).bind fun q1 => (numF k q1.2.1 q1.2.2 200).bind fun p5 => (decDels k p5.1.toNat p5.2.1 p5.2.2 []).bind fun q2 =>
 if (!q2.2.2 && (q2.2.1.length : Int) == 0) = true then
  (edit_Encode.f k p1.1 p2.1 p3.1 q1.1 q2.1).bind fun c => if c.2 = 0 then (bytes_Equal.f c.1 l0).bind fun t => if t = true then some (p1.1,p2.1,p3.1,q1.1,q2.1,0) else some (0,0,0,[],[],8) else some (0,0,0,[],[],8)
 else some (0, 0, 0, [], [], 8)
theorem lit_C {α : Type} {d : Kd α} {w : World} {g t : Nat} {cs : Array Value} {x : α} (h : w.heap[g]? = some (.cells cs t (0,0))) (hK : d.K w x cs.toList) (hs : cs.toList.length = d.sz) : Kd.C d w (some ⟨g,0,none⟩) 1 [x] := by
 refine ⟨rfl, by omega, fun _ => ⟨⟨g, 0, none⟩, rfl, fun j p hj => ?_⟩⟩
 have hj0 : j = 0 := by
  rcases Nat.lt_or_ge j 1 with h1 | h1
  ·omega
  ·rw [List.getElem?_eq_none (by simpa using h1)] at hj; cases hj
 subst hj0
 have hp : x = p := by simpa using hj
 subst hp
 refine ⟨cs.toList, hs, hK, fun i u hu => ?_⟩
 rw [Nat.zero_mul, Nat.zero_add, add_plain]
 exact (blk_cell h i).trans (by simpa using hu)
theorem numF_le {k : Nat} {l : List Int} {b : Bool} {most v : Int} {l' : List Int} {b' : Bool} (h : numF k l b most = some (v, l', b')) : v ≤ 9223372036854775807 := by
 unfold numF at h
 obtain ⟨p, _, h⟩ := Option.bind_eq_some_iff.mp h
 obtain ⟨q, _, h⟩ := Option.bind_eq_some_iff.mp h
 simp only [Option.some.injEq, Prod.mk.injEq] at h
 obtain ⟨rfl, _⟩ := h
 split
 ·omega
 ·unfold wrap64; omega
theorem Reader_Done_calls' (g : Nat) (l : List Int) (bad : Bool) (r : Bool) (w0 w : World) (hI : RdI w0 w g l bad) (hr : (!bad && (l.length : Int) == 0) = r) :
  Calls Try.prog 62 #[.pointer (some ⟨g, 0, none⟩)] w fun e w' => e = .returned (.bool r) ∧ RdI w0 w' g l bad ∧ KeepBut w w' g none := by
 subst hr; exact Reader_Done_calls g l bad w0 w hI
/-- What Decode keeps: the result's block, the reader, the edit that grows. -/
def DecI (w wr : World) (gR gr g5 : Nat) (l : List Int) (bad : Bool) (n1 n2 n3 : Int) (fs : List S55) (ds : List Int) (vA vD : Value) : Prop :=
 RdI w wr gr l bad ∧ wr.heap[g5]? = some (.cells #[.int .i64 n1,.int .i64 n2,.int .i64 n3,vA,vD] 43 (0,0)) ∧ wr.heap[gR]? = some (.cells #[.int .i64 0,.int .i64 0,.int .i64 0,.slice none 0 0,.slice none 0 0] 43 (0,0)) ∧ Kd.R k55 55 wr w.heap.size (fun _ => True) vA fs ∧ Kd.R (Kd.int .i64) 2 wr w.heap.size (fun _ => True) vD ds
theorem DecI.keep {w wr w' : World} {gR gr g5 : Nat} {l l' : List Int} {bad bad' : Bool} {n1 n2 n3 : Int} {fs : List S55} {ds : List Int} {vA vD : Value} (h : DecI w wr gR gr g5 l bad n1 n2 n3 fs ds vA vD) (hr : RdI w w' gr l' bad') (hk : KeepBut wr w' gr none) (h1 : gR ≠ gr) (h2 : g5 ≠ gr) : DecI w w' gR gr g5 l' bad' n1 n2 n3 fs ds vA vD := by
 obtain ⟨⟨_, _, A, c, hC, _⟩, a2, a3, a4, a5⟩ := h
 refine ⟨hr, (hk.2 g5 (blk_lt a2) h2 (by simp)).trans a2, (hk.2 gR (blk_lt a3) h1 (by simp)).trans a3, ?_, ?_⟩
 ·exact Kd.R_mono (Kd.R_keep (Kd.R_types a4 hC (by decide)) hk (fun _ hk => hk.2)) (fun _ _ => trivial)
 ·exact Kd.R_mono (Kd.R_keep (Kd.R_types a5 hC (by decide)) hk (fun _ hk => hk.2)) (fun _ _ => trivial)
theorem DecI.move {w wr w' : World} {gR gr g5 : Nat} {l l' : List Int} {bad bad' : Bool} {n1 n2 n3 : Int} {fs : List S55} {ds : List Int} {vA vD : Value} (h : DecI w wr gR gr g5 l bad n1 n2 n3 fs ds vA vD) (hr : RdI w w' gr l' bad') (hk : ∀ i,i < wr.heap.size → i ≠ gr → w'.heap[i]? = wr.heap[i]?) (h1 : gR ≠ gr) (h2 : g5 ≠ gr) : DecI w w' gR gr g5 l' bad' n1 n2 n3 fs ds vA vD := by
 obtain ⟨⟨_, _, A, c, hC, _⟩, a2, a3, a4, a5⟩ := h
 refine ⟨hr, (hk g5 (blk_lt a2) h2).trans a2, (hk gR (blk_lt a3) h1).trans a3, ?_, ?_⟩
 ·exact Kd.R_mono (Kd.R_step (Kd.R_types a4 hC (by decide)) (fun i hi hl => hk i hl hi.2)) (fun _ _ => trivial)
 ·exact Kd.R_mono (Kd.R_step (Kd.R_types a5 hC (by decide)) (fun i hi hl => hk i hl hi.2)) (fun _ _ => trivial)
theorem RdI.set_ {w0 W : World} {gr g j : Nat} {u : Value} {l : List Int} {bad : Bool} (h : RdI w0 W gr l bad) (hne : gr ≠ g) (hg : w0.heap.size ≤ g) : RdI w0 (W.setCell ⟨g, j, none⟩ u) gr l bad := by
 obtain ⟨h1, h2, A, c, h3, h4⟩ := h
 exact ⟨h1, below_set h2 hg, A, c, (Below.heap_setCell W _ _ gr hne).trans h3, h4⟩
theorem grown_far {α : Type} {d : Kd α} {e : Nat} {W w1 : World} {base : Nat} {ok : Nat → Prop} {v : Value} {b : List α} {i t : Nat} {cs : Array Value} (hg : W.grownBy w1 v.ownBlock) (hO : Kd.R d e W base ok v b) (hw : W.heap[i]? = some (.cells cs t (0,0))) (ht : t ≠ e) : w1.heap[i]? = some (.cells cs t (0,0)) := by
 refine (hg.block i (blk_lt hw) ?_).trans hw
 intro z
 obtain ⟨_, inner, ho, _⟩ := hO
 obtain ⟨cells, hcell⟩ := own_typed ho i z.symm
 rw [hw] at hcell
 injection hcell with hcell
 injection hcell with _ ht2
 exact ht ht2
theorem DecI.below {w wr w' : World} {gR gr g5 : Nat} {l : List Int} {bad : Bool} {n1 n2 n3 : Int} {fs : List S55} {ds : List Int} {vA vD : Value} (h : DecI w wr gR gr g5 l bad n1 n2 n3 fs ds vA vD) (hb : Below wr.heap.size wr w') : DecI w w' gR gr g5 l bad n1 n2 n3 fs ds vA vD := by
 obtain ⟨a1, a2, a3, a4, a5⟩ := h
 exact ⟨a1.below hb, (hb.block g5 (blk_lt a2)).trans a2, (hb.block gR (blk_lt a3)).trans a3, Kd.R_below a4 hb, Kd.R_below a5 hb⟩
set_option maxHeartbeats 8000000 in
set_option maxRecDepth 100000 in
theorem edit_Decode.calls (k : Nat) (A0 : Option Addr) (c0 : Nat) (l0 : List Int) (r1 r2 r3 : Int) (r4 : List S55) (r5 : List Int) (r6 : Int) (w : World) (hr0 : Kd.C (Kd.int .u8) w A0 l0.length l0) (hc0 : l0.length ≤ c0) (h : edit_Decode.f k l0 = some (r1,r2,r3,r4,r5,r6)) :
  Calls Try.prog 28 #[.slice A0 l0.length c0] w fun e w' => ∃ v0_ v1_ : Value,e = .returned (.tuple #[.agg #[.int .i64 r1,.int .i64 r2,.int .i64 r3,v0_,v1_],.int .i64 r6]) ∧ Kd.R k55 55 w' w.heap.size (fun _ => True) v0_ r4 ∧ Kd.R (Kd.int .i64) 2 w' w.heap.size (fun _ => True) v1_ r5 ∧ Below w.heap.size w w' := by
 have HR0 := Aside0.mk hr0
 clear hr0
 unfold edit_Decode.f at h
 obtain ⟨⟨n1, l1, b1⟩, h1, h⟩ := Option.bind_eq_some_iff.mp h
 obtain ⟨⟨n2, l2, b2⟩, h2, h⟩ := Option.bind_eq_some_iff.mp h
 obtain ⟨⟨n3, l3, b3⟩, h3, h⟩ := Option.bind_eq_some_iff.mp h
 obtain ⟨⟨na, l4, b4⟩, h4, h⟩ := Option.bind_eq_some_iff.mp h
 obtain ⟨⟨fs, l5, b5⟩, h5, h⟩ := Option.bind_eq_some_iff.mp h
 obtain ⟨⟨nd, l6, b6⟩, h6, h⟩ := Option.bind_eq_some_iff.mp h
 obtain ⟨⟨ds, l7, b7⟩, h7, h⟩ := Option.bind_eq_some_iff.mp h
 have H1 := Aside0.mk h1
 have H2 := Aside0.mk h2
 have H3 := Aside0.mk h3
 have H4 := Aside0.mk h4
 have H5 := Aside0.mk h5
 have H6 := Aside0.mk h6
 have H7 := Aside0.mk h7
 have hna := numF_le h4
 have hnd := numF_le h6
 have H := Aside0.mk h
 clear h h1 h2 h3 h4 h5 h6 h7
 obtain ⟨gR, hgR⟩ : ∃ g, Aside0 (g = w.heap.size) := ⟨_, ⟨rfl⟩⟩
 obtain ⟨gr, hgr⟩ : ∃ g, Aside0 (g = gR + 1) := ⟨_, ⟨rfl⟩⟩
 have hRr : gR < gr := by have := hgr.out; omega
 have hwR : w.heap.size ≤ gR := by have := hgR.out; omega
 have hwr : w.heap.size ≤ gr := by omega
 go_enter Try.func28, Try.ntmps28
 go_upto_region 2 with (fail)
 rw [← hgR.out]
 rw [← hgr.out]
 have HI0 : Aside0 (RdI w ((w.alloc (Obj.cells #[Value.int IntKind.i64 0,Value.int IntKind.i64 0,Value.int IntKind.i64 0,Value.slice none 0 0,Value.slice none 0 0] 43)).alloc (Obj.cells #[Value.slice A0 l0.length c0,Value.bool false] 103)) gr l0 false) := ⟨⟨hwr,below_alloc (below_alloc (Below.refl _ _) _) _,A0,c0,alloc_newD_ _ _ _ (by have := hgr.out;have := hgR.out;simp;omega),HR0.out,hc0⟩⟩
 have HZ0 : Aside0 (((w.alloc (Obj.cells #[Value.int IntKind.i64 0,Value.int IntKind.i64 0,Value.int IntKind.i64 0,Value.slice none 0 0,Value.slice none 0 0] 43)).alloc (Obj.cells #[Value.slice A0 l0.length c0,Value.bool false] 103)).heap[gR]? = some (.cells #[.int .i64 0,.int .i64 0,.int .i64 0,.slice none 0 0,.slice none 0 0] 43 (0,0))) := ⟨(Below.heap_alloc _ _ gR (by have := hgR.out;simp;omega)).trans (alloc_newD_ w _ _ (hgR.out))⟩
 generalize (w.alloc (Obj.cells #[Value.int IntKind.i64 0,Value.int IntKind.i64 0,Value.int IntKind.i64 0,Value.slice none 0 0,Value.slice none 0 0] 43)).alloc (Obj.cells #[Value.slice A0 l0.length c0,Value.bool false] 103) = W0 at HI0 HZ0 ⊢
 go_wp2_with (first
 |(go_at_call 60;(with_reducible refine (varint_Reader_Num.calls k gr l3 b3 200 na l4 b4 w _ HI3.out H4.out).mono ?_);rintro e w4 ⟨rfl,hI_,hk_⟩;have HI4 := Aside0.mk hI_;have HD4 := Aside0.mk (DecI.keep HD3.out hI_ hk_ (by omega) (by omega));clear hI_ hk_)
 |(go_at_call 60;(with_reducible refine (varint_Reader_Num.calls k gr l2 b2 1125899906842624 n3 l3 b3 w _ HI2.out H3.out).mono ?_);rintro e w3 ⟨rfl,hI_,hk_⟩;have HI3_ := Aside0.mk hI_;have HZ3_ := Aside0.mk ((hk_.2 gR (blk_lt HZ2.out) (by omega) (by simp)).trans HZ2.out);obtain ⟨g5,hg5⟩ : ∃ g,Aside0 (g = w3.heap.size) := ⟨_,⟨rfl⟩⟩;have hr5 : gr < g5 := (by have := hg5.out;have := blk_lt hI_.2.2.choose_spec.choose_spec.1;omega);have HD3 : Aside0 (DecI w (w3.alloc (Obj.cells #[.int .i64 n1,.int .i64 n2,.int .i64 n3,.slice none 0 0,.slice none 0 0] 43)) gR gr g5 l3 b3 n1 n2 n3 [] [] (.slice none 0 0) (.slice none 0 0)) := ⟨⟨hI_.below (below_alloc (Below.refl _ _) _),alloc_newD_ _ _ _ hg5.out,(Below.heap_alloc w3 _ gR (blk_lt HZ3_.out)).trans HZ3_.out,Kd.R_nil _ _ _ _ _,Kd.R_nil _ _ _ _ _⟩⟩;have HI3 := Aside0.mk HD3.out.1;clear hI_ hk_)
 |(go_at_call 60;(with_reducible refine (varint_Reader_Num.calls k gr l1 b1 1125899906842624 n2 l2 b2 w _ HI1.out H2.out).mono ?_);rintro e w2 ⟨rfl,hI_,hk_⟩;have HI2 := Aside0.mk hI_;have HZ2 := Aside0.mk ((hk_.2 gR (blk_lt HZ1.out) (by omega) (by simp)).trans HZ1.out);clear hI_ hk_)
 |(go_at_call 60;(with_reducible refine (varint_Reader_Num.calls k gr l0 false 1125899906842624 n1 l1 b1 w _ HI0.out H1.out).mono ?_);rintro e w1 ⟨rfl,hI_,hk_⟩;have HI1 := Aside0.mk hI_;have HZ1 := Aside0.mk ((hk_.2 gR (blk_lt HZ0.out) (by omega) (by simp)).trans HZ0.out);clear hI_ hk_))
 rw [← hg5.out]
 have hD4 := HD4.out
 clear HD4 HD3
 go_loopg [21] na.toNat (fun kx s21 wr => ∃ (m : Nat) (l : List Int) (b : Bool) (acc : List S55) (vA : Value),s21 = .int .i64 m ∧ m + kx = na.toNat ∧ Aside0 (decFiles k kx l b acc = some (fs,l5,b5)) ∧ Aside0 (DecI w wr gR gr g5 l b n1 n2 n3 acc [] vA (.slice none 0 0)))
 case atStart => exact ⟨0, l4, b4, [], _, rfl, by omega, H5, ⟨hD4⟩⟩
 case round =>
  clear hD4 H5
  obtain ⟨m, l, b, acc, vA, rfl, hk, HF, HD⟩ := hrel
  cases gk with
  | zero =>
   have hi : ((m : Int) < na) = False := eq_false (by omega)
   have h_ := HF.out
   simp only [decFiles, Option.some.injEq, Prod.mk.injEq] at h_
   obtain ⟨rfl, rfl, rfl⟩ := h_
   have HI5 := Aside0.mk HD.out.1
   go_upto_region 10 with (first
   |(go_at_call 60;(with_reducible refine (varint_Reader_Num.calls k gr l b 200 nd l6 b6 w _ HI5.out H6.out).mono ?_);rintro e w6 ⟨rfl,hI_,hk_⟩;have HD6 := Aside0.mk (DecI.keep HD.out hI_ hk_ (by omega) (by omega));clear hI_ hk_))
   have hD6 := HD6.out
   clear HD6 HD HI5
   go_loopg [45] nd.toNat (fun kx s45 wr => ∃ (m : Nat) (l : List Int) (b : Bool) (dc : List Int) (vD : Value),s45 = .int .i64 m ∧ m + kx = nd.toNat ∧ Aside0 (decDels k kx l b dc = some (ds,l7,b7)) ∧ Aside0 (DecI w wr gR gr g5 l b n1 n2 n3 acc dc vA vD))
   case atStart => exact ⟨0, l6, b6, [], _, rfl, by omega, H7, ⟨hD6⟩⟩
   case round =>
    clear hD6 H7 HF
    obtain ⟨m2, l, b, dc, vD, rfl, hk, HF, HD⟩ := hrel
    cases gk with
    | zero =>
     have hi2 : ((m2 : Int) < nd) = False := eq_false (by omega)
     have h_ := HF.out
     simp only [decDels, Option.some.injEq, Prod.mk.injEq] at h_
     obtain ⟨rfl, rfl, rfl⟩ := h_
     have h := H.out
     clear H HF
     try dsimp only at h
     have HIz := Aside0.mk HD.out.1
     cases hdone_ : (!b && (l.length : Int) == 0) with
     | false =>
      rw [hdone_] at h
      have hdone := Aside0.mk hdone_
      clear hdone_
      simp only [Bool.false_eq_true, if_false, Option.some.injEq, Prod.mk.injEq] at h
      obtain ⟨rfl, rfl, rfl, rfl, rfl, rfl⟩ := h
      go_upto_region 14 with (first|(go_at_call 62;(with_reducible refine (Reader_Done_calls' gr l b false w _ HIz.out hdone.out).mono ?_);rintro e wZ ⟨rfl,hI_,hk_⟩;have HDz := Aside0.mk (DecI.keep HD.out hI_ hk_ (by omega) (by omega));clear hI_ hk_))
      have yz0 := (blk_cell HDz.out.2.2.1 0).trans rfl
      have fz0 := blk_frozen HDz.out.2.2.1 0
      have yz1 := (blk_cell HDz.out.2.2.1 1).trans rfl
      have fz1 := blk_frozen HDz.out.2.2.1 1
      have yz2 := (blk_cell HDz.out.2.2.1 2).trans rfl
      have fz2 := blk_frozen HDz.out.2.2.1 2
      have yz3 := (blk_cell HDz.out.2.2.1 3).trans rfl
      have fz3 := blk_frozen HDz.out.2.2.1 3
      have yz4 := (blk_cell HDz.out.2.2.1 4).trans rfl
      have fz4 := blk_frozen HDz.out.2.2.1 4
      go_wp2
      refine bodyPost_ret (results_ct rfl _ _ gR 43 #[.int .i64 0,.int .i64 0,.int .i64 0,.slice none 0 0,.slice none 0 0] (0,0) _ rfl (blk_set (blk_set (blk_set (blk_set (blk_set (HDz.out.2.2.1) 0 (.int .i64 0)) 1 (.int .i64 0)) 2 (.int .i64 0)) 3 (.slice none 0 0)) 4 (.slice none 0 0)) Try.underlying43 rfl (by kernel_rfl)) rfl ?_
      exact ⟨_, _, rfl, Kd.R_nil _ _ _ _ _, Kd.R_nil _ _ _ _ _, below_set (below_set (below_set (below_set (below_set (HDz.out.1.2.1) hwR) hwR) hwR) hwR) hwR⟩
     | true =>
      rw [hdone_] at h
      have hdone := Aside0.mk hdone_
      clear hdone_
      simp only [if_true] at h
      obtain ⟨⟨cc, err⟩, hen, h⟩ := Option.bind_eq_some_iff.mp h
      have HEN := Aside0.mk hen
      clear hen
      obtain ⟨AA, cA, eA⟩ := Kd.R_slice HD.out.2.2.2.1
      subst eA
      obtain ⟨AD, cD, eD⟩ := Kd.R_slice HD.out.2.2.2.2
      subst eD
      go_upto_region 15 with (first|(go_at_call 62;(with_reducible refine (Reader_Done_calls' gr l b true w _ HIz.out hdone.out).mono ?_);rintro e wZ ⟨rfl,hI_,hk_⟩;have HDz := Aside0.mk (DecI.keep HD.out hI_ hk_ (by omega) (by omega));clear hI_ hk_))
      have HAz := Aside0.mk (Kd.R_reads' HDz.out.2.2.2.1)
      have HDzz := Aside0.mk (Kd.R_reads' HDz.out.2.2.2.2)
      have yE0 := (blk_cell HDz.out.2.1 0).trans rfl
      have yE1 := (blk_cell HDz.out.2.1 1).trans rfl
      have yE2 := (blk_cell HDz.out.2.1 2).trans rfl
      have yE3 := (blk_cell HDz.out.2.1 3).trans rfl
      have yE4 := (blk_cell HDz.out.2.1 4).trans rfl
      go_upto_region 16 with (first|(go_at_call 25;(with_reducible refine (edit_Encode.calls k n1 n2 n3 AA cA acc AD cD dc cc err _ HAz.out.2.2 HAz.out.2.1 HDzz.out.2.2 HDzz.out.2.1 HEN.out).mono ?_);rintro e wY ⟨vc,rfl,ho,hb⟩;obtain ⟨AC,cC,eC⟩ := Kd.R_slice ho;subst eC;have HC := Aside0.mk ho;have HDy := Aside0.mk (HDz.out.below hb);have HBy := Aside0.mk (below_step HDz.out.1.2.1 hb);have HCr := Aside0.mk (Kd.R_reads' ho);clear ho hb))
      by_cases he0 : err = 0
      ·simp only [if_pos he0] at h
       subst he0
       obtain ⟨t, heq, h⟩ := Option.bind_eq_some_iff.mp h
       have HEQ := Aside0.mk heq
       clear heq
       cases t with
       | false =>
        simp only [Bool.false_eq_true, if_false, Option.some.injEq, Prod.mk.injEq] at h
        obtain ⟨rfl, rfl, rfl, rfl, rfl, rfl⟩ := h
        go_upto_region 17 with (first|(go_at_call 63;(with_reducible refine (bytes_Equal.calls AC cC cc A0 c0 l0 false _ HCr.out.2.2 HCr.out.2.1 (Kd.C_below HR0.out HBy.out) hc0 HEQ.out).mono ?_);rintro e w' ⟨rfl,⟨ndr,rfl⟩⟩))
        have yz0 := (blk_cell (blk_drewN HDy.out.2.2.1 ndr) 0).trans rfl
        have fz0 := blk_frozen (blk_drewN HDy.out.2.2.1 ndr) 0
        have yz1 := (blk_cell (blk_drewN HDy.out.2.2.1 ndr) 1).trans rfl
        have fz1 := blk_frozen (blk_drewN HDy.out.2.2.1 ndr) 1
        have yz2 := (blk_cell (blk_drewN HDy.out.2.2.1 ndr) 2).trans rfl
        have fz2 := blk_frozen (blk_drewN HDy.out.2.2.1 ndr) 2
        have yz3 := (blk_cell (blk_drewN HDy.out.2.2.1 ndr) 3).trans rfl
        have fz3 := blk_frozen (blk_drewN HDy.out.2.2.1 ndr) 3
        have yz4 := (blk_cell (blk_drewN HDy.out.2.2.1 ndr) 4).trans rfl
        have fz4 := blk_frozen (blk_drewN HDy.out.2.2.1 ndr) 4
        go_wp2
        refine bodyPost_ret (results_ct rfl _ _ gR 43 #[.int .i64 0,.int .i64 0,.int .i64 0,.slice none 0 0,.slice none 0 0] (0,0) _ rfl (blk_set (blk_set (blk_set (blk_set (blk_set ((blk_drewN HDy.out.2.2.1 ndr)) 0 (.int .i64 0)) 1 (.int .i64 0)) 2 (.int .i64 0)) 3 (.slice none 0 0)) 4 (.slice none 0 0)) Try.underlying43 rfl (by kernel_rfl)) rfl ?_
        exact ⟨_, _, rfl, Kd.R_nil _ _ _ _ _, Kd.R_nil _ _ _ _ _, below_set (below_set (below_set (below_set (below_set (pw_below_drewN HDy.out.1.2.1 ndr) hwR) hwR) hwR) hwR) hwR⟩
       | true =>
        simp only [if_true, Option.some.injEq, Prod.mk.injEq] at h
        obtain ⟨rfl, rfl, rfl, rfl, rfl, rfl⟩ := h
        go_upto_region 18 with (first|(go_at_call 63;(with_reducible refine (bytes_Equal.calls AC cC cc A0 c0 l0 true _ HCr.out.2.2 HCr.out.2.1 (Kd.C_below HR0.out HBy.out) hc0 HEQ.out).mono ?_);rintro e w' ⟨rfl,⟨ndr,rfl⟩⟩))
        have yg0 := (blk_cell (blk_drewN HDy.out.2.1 ndr) 0).trans rfl
        have fg0 := blk_frozen (blk_drewN HDy.out.2.1 ndr) 0
        have yg1 := (blk_cell (blk_drewN HDy.out.2.1 ndr) 1).trans rfl
        have fg1 := blk_frozen (blk_drewN HDy.out.2.1 ndr) 1
        have yg2 := (blk_cell (blk_drewN HDy.out.2.1 ndr) 2).trans rfl
        have fg2 := blk_frozen (blk_drewN HDy.out.2.1 ndr) 2
        have yg3 := (blk_cell (blk_drewN HDy.out.2.1 ndr) 3).trans rfl
        have fg3 := blk_frozen (blk_drewN HDy.out.2.1 ndr) 3
        have yg4 := (blk_cell (blk_drewN HDy.out.2.1 ndr) 4).trans rfl
        have fg4 := blk_frozen (blk_drewN HDy.out.2.1 ndr) 4
        have yz0 := (blk_cell (blk_drewN HDy.out.2.2.1 ndr) 0).trans rfl
        have fz0 := blk_frozen (blk_drewN HDy.out.2.2.1 ndr) 0
        have yz1 := (blk_cell (blk_drewN HDy.out.2.2.1 ndr) 1).trans rfl
        have fz1 := blk_frozen (blk_drewN HDy.out.2.2.1 ndr) 1
        have yz2 := (blk_cell (blk_drewN HDy.out.2.2.1 ndr) 2).trans rfl
        have fz2 := blk_frozen (blk_drewN HDy.out.2.2.1 ndr) 2
        have yz3 := (blk_cell (blk_drewN HDy.out.2.2.1 ndr) 3).trans rfl
        have fz3 := blk_frozen (blk_drewN HDy.out.2.2.1 ndr) 3
        have yz4 := (blk_cell (blk_drewN HDy.out.2.2.1 ndr) 4).trans rfl
        have fz4 := blk_frozen (blk_drewN HDy.out.2.2.1 ndr) 4
        go_wp2
        refine bodyPost_ret (results_ct rfl _ _ gR 43 #[.int .i64 n1,.int .i64 n2,.int .i64 n3,.slice AA acc.length cA,.slice AD dc.length cD] (0,0) _ rfl (blk_set (blk_set (blk_set (blk_set (blk_set ((blk_drewN HDy.out.2.2.1 ndr)) 0 (.int .i64 n1)) 1 (.int .i64 n2)) 2 (.int .i64 n3)) 3 (.slice AA acc.length cA)) 4 (.slice AD dc.length cD)) Try.underlying43 rfl (by kernel_rfl)) rfl ?_
        have hRA := Kd.R_types (Kd.R_drewN HDy.out.2.2.2.1 ndr) (blk_drewN HDy.out.2.2.1 ndr) (by decide)
        have hRD := Kd.R_types (Kd.R_drewN HDy.out.2.2.2.2 ndr) (blk_drewN HDy.out.2.2.1 ndr) (by decide)
        exact ⟨_,_,rfl,Kd.R_mono (Kd.R_far (Kd.R_far (Kd.R_far (Kd.R_far (Kd.R_far hRA (p := ⟨gR,0,none⟩) (fun _ hk => hk.2) _) (p := ⟨gR,1,none⟩) (fun _ hk => hk.2) _) (p := ⟨gR,2,none⟩) (fun _ hk => hk.2) _) (p := ⟨gR,3,none⟩) (fun _ hk => hk.2) _) (p := ⟨gR,4,none⟩) (fun _ hk => hk.2) _) (fun _ _ => trivial),Kd.R_mono (Kd.R_far (Kd.R_far (Kd.R_far (Kd.R_far (Kd.R_far hRD (p := ⟨gR,0,none⟩) (fun _ hk => hk.2) _) (p := ⟨gR,1,none⟩) (fun _ hk => hk.2) _) (p := ⟨gR,2,none⟩) (fun _ hk => hk.2) _) (p := ⟨gR,3,none⟩) (fun _ hk => hk.2) _) (p := ⟨gR,4,none⟩) (fun _ hk => hk.2) _) (fun _ _ => trivial),below_set (below_set (below_set (below_set (below_set (pw_below_drewN HDy.out.1.2.1 ndr) hwR) hwR) hwR) hwR) hwR⟩
      ·simp only [if_neg he0, Option.some.injEq, Prod.mk.injEq] at h
       obtain ⟨rfl, rfl, rfl, rfl, rfl, rfl⟩ := h
       have he0b : (err != 0) = true := bne_iff_ne.mpr he0
       have he0c : (err == 0) = false := beq_eq_false_iff_ne.mpr he0
       go_upto_region 17 with (fail)
       have yz0 := (blk_cell HDy.out.2.2.1 0).trans rfl
       have fz0 := blk_frozen HDy.out.2.2.1 0
       have yz1 := (blk_cell HDy.out.2.2.1 1).trans rfl
       have fz1 := blk_frozen HDy.out.2.2.1 1
       have yz2 := (blk_cell HDy.out.2.2.1 2).trans rfl
       have fz2 := blk_frozen HDy.out.2.2.1 2
       have yz3 := (blk_cell HDy.out.2.2.1 3).trans rfl
       have fz3 := blk_frozen HDy.out.2.2.1 3
       have yz4 := (blk_cell HDy.out.2.2.1 4).trans rfl
       have fz4 := blk_frozen HDy.out.2.2.1 4
       go_wp2
       refine bodyPost_ret (results_ct rfl _ _ gR 43 #[.int .i64 0,.int .i64 0,.int .i64 0,.slice none 0 0,.slice none 0 0] (0,0) _ rfl (blk_set (blk_set (blk_set (blk_set (blk_set (HDy.out.2.2.1) 0 (.int .i64 0)) 1 (.int .i64 0)) 2 (.int .i64 0)) 3 (.slice none 0 0)) 4 (.slice none 0 0)) Try.underlying43 rfl (by kernel_rfl)) rfl ?_
       exact ⟨_, _, rfl, Kd.R_nil _ _ _ _ _, Kd.R_nil _ _ _ _ _, below_set (below_set (below_set (below_set (below_set (HDy.out.1.2.1) hwR) hwR) hwR) hwR) hwR⟩

    | succ k2 =>
     have hi2 : ((m2 : Int) < nd) = True := eq_true (by omega)
     have h_ := HF.out
     clear HF
     simp only [decDels] at h_
     obtain ⟨⟨x1, lA, bA⟩, q1, h_⟩ := Option.bind_eq_some_iff.mp h_
     by_cases hac : dc.length < 1000000
     ·rw [if_pos hac] at h_
      have HF := Aside0.mk h_
      have Q1 := Aside0.mk q1
      clear h_ q1
      have HIa : Aside0 (RdI w wr.drew gr l b) := ⟨HD.out.1.below (below_drew1 (Below.refl _ _))⟩
      have HDa : Aside0 (DecI w wr.drew gR gr g5 l b n1 n2 n3 acc dc vA vD) := ⟨HD.out.below (below_drew1 (Below.refl _ _))⟩
      obtain ⟨AD, cD, eD⟩ := Kd.R_slice HD.out.2.2.2.2
      subst eD
      obtain ⟨dc', hdc'⟩ : ∃ z, Aside0 (z = dc ++ [x1]) := ⟨_, ⟨rfl⟩⟩
      have d4 : wr.cell? ⟨g5, 4, none⟩ = some (.slice AD dc.length cD) := (blk_cell HD.out.2.1 4).trans rfl
      have hw64 : Aside0 (wrap64 ((m2 : Int) + 1) = ((m2 + 1 : Nat) : Int)) := ⟨by unfold wrap64; omega⟩
      go_wp2
      go_region_law (first
      |(go_simp;go_at_call 60;(with_reducible refine (varint_Reader_Num.calls k gr l b 1125899906842624 x1 lA bA w _ HIa.out Q1.out).mono ?_);rintro e wA ⟨rfl,hI_,hk_⟩;have HDb := Aside0.mk (DecI.keep HDa.out hI_ hk_ (by omega) (by omega));have HDc : Aside0 (DecI w (wA.alloc (Obj.cells #[Value.int IntKind.i64 x1] 2)) gR gr g5 lA bA n1 n2 n3 acc dc vA (.slice AD dc.length cD)) := ⟨HDb.out.below (below_alloc (Below.refl _ _) _)⟩;have d4b : wA.cell? ⟨g5,4,none⟩ = some (.slice AD dc.length cD) := (blk_cell HDb.out.2.1 4).trans rfl;have d4c : (wA.alloc (Obj.cells #[Value.int IntKind.i64 x1] 2)).cell? ⟨g5,4,none⟩ = some (.slice AD dc.length cD) := (blk_cell HDc.out.2.1 4).trans rfl;clear hI_ hk_)
      |(refine Kd.R_append_rows_step (Kd.int .i64) (w0 := w) w.heap.size (by rfl) _ _ 41 2 (.int .i64 0) 8 rfl Try.underlying41 info2 rfl (by decide) (by omega) (.slice AD dc.length cD) dc [x1] _ _ _ (fun _ => True) (fun _ => False) (by rfl) (by rfl) ?aO ?aR (fun _ _ h => h) (fun _ h => h.elim) ?aF ?aB ?aS ?aL ?_;(case aO => exact HDc.out.2.2.2.2);(case aR => exact lit_C (alloc_newD_ _ _ _ rfl) rfl rfl);(case aF => exact fun _ _ => trivial);(case aB => exact HDc.out.1.2.1);(case aS => exact below_size HDc.out.1.2.1);(case aL => omega);intro v9 w9 ho hb hg hat;rw [← hdc'.out] at ho;obtain ⟨A9,c9,e9⟩ := Kd.R_slice ho;subst e9;have HO9 := Aside0.mk ho;have E59 := Aside0.mk (grown_far hg HDc.out.2.2.2.2 HDc.out.2.1 (by decide));have ER9 := Aside0.mk (grown_far hg HDc.out.2.2.2.2 HDc.out.2.2.1 (by decide));have HI9 : Aside0 (RdI w w9 gr lA bA) := (by obtain ⟨i1,i2,iA,ic,i3,i4⟩ := HDc.out.1;exact ⟨⟨i1,hb,iA,ic,grown_far hg HDc.out.2.2.2.2 i3 (by decide),i4⟩⟩);have HA9 := Aside0.mk (Kd.R_over' HDc.out.2.2.2.1 (Kd.R_typed HDc.out.2.2.2.2) (by decide) hg);have u9 : w9.cell? ⟨g5,4,none⟩ = some (.slice AD dc.length cD) := (blk_cell E59.out 4).trans rfl;have fz9 := blk_frozen E59.out 4;clear ho hb hg hat))
      all_goals
       go_wp2
       go_roundg k2
       case measure => omega
       case rel => exact ⟨m2 + 1,lA,bA,dc',_,by first | rfl | rw [hw64.out],by omega,by rw [hdc'.out];exact HF,⟨HI9.out.set_ (by omega) (by omega),blk_set E59.out 4 _,(Below.heap_setCell w9 _ _ gR (by show gR ≠ g5;omega)).trans ER9.out,Kd.R_set HA9.out E59.out (by decide) 4 _,Kd.R_set HO9.out E59.out (by decide) 4 _⟩⟩
     ·rw [if_neg hac] at h_; cases h_
  | succ k1 =>
   have hi : ((m : Int) < na) = True := eq_true (by omega)
   have h_ := HF.out
   clear HF
   simp only [decFiles] at h_
   obtain ⟨⟨x1, lA, bA⟩, q1, h_⟩ := Option.bind_eq_some_iff.mp h_
   obtain ⟨⟨x2, lB, bB⟩, q2, h_⟩ := Option.bind_eq_some_iff.mp h_
   obtain ⟨⟨x3, lC, bC⟩, q3, h_⟩ := Option.bind_eq_some_iff.mp h_
   obtain ⟨⟨s1, lD, bD⟩, q4, h_⟩ := Option.bind_eq_some_iff.mp h_
   obtain ⟨⟨s2, lE, bE⟩, q5, h_⟩ := Option.bind_eq_some_iff.mp h_
   by_cases hac : acc.length < 1000000
   ·rw [if_pos hac] at h_
    have HF := Aside0.mk h_
    have Q1 := Aside0.mk q1
    have Q2 := Aside0.mk q2
    have Q3 := Aside0.mk q3
    have Q4 := Aside0.mk q4
    have Q5 := Aside0.mk q5
    clear h_ q1 q2 q3 q4 q5
    have HIa := Aside0.mk HD.out.1
    go_upto_region 7 with (first
    |(go_at_call 61;(with_reducible refine (varint_Reader_Text.calls k gr lD bD s2 lE bE w _ HIf.out Q5.out).mono ?_);rintro e wE ⟨rfl,hI_,hk_⟩;have HIg := Aside0.mk hI_;have HKg := Aside0.mk hk_;have HV := Aside0.mk ((hk_.2 wC.heap.size (blk_lt HVd.out) (by omega) (by simp)).trans HVd.out);have y0 := (blk_cell HV.out 0).trans rfl;have y1 := (blk_cell HV.out 1).trans rfl;have y2 := (blk_cell HV.out 2).trans rfl;have y3 := (blk_cell HV.out 3).trans rfl;have y4 := (blk_cell HV.out 4).trans rfl;have f3 := blk_frozen HV.out 3;have f4 := blk_frozen HV.out 4;clear hI_ hk_)
    |(go_at_call 61;(with_reducible refine (varint_Reader_Text.calls k gr lC bC s1 lD bD w _ HIe.out Q4.out).mono ?_);rintro e wD ⟨rfl,hI_,hk_⟩;have HIf := Aside0.mk hI_;have HKf := Aside0.mk hk_;have HVd := Aside0.mk ((hk_.2 wC.heap.size (blk_lt HVc.out) (by omega) (by simp)).trans HVc.out);clear hI_ hk_)
    |(go_at_call 60;(with_reducible refine (varint_Reader_Num.calls k gr lB bB 16777216 x3 lC bC w _ HIc.out Q3.out).mono ?_);rintro e wC ⟨rfl,hI_,hk_⟩;have HId := Aside0.mk hI_;have HKd := Aside0.mk (KeepBut.trans HKc.out hk_ (.inl rfl));have hltr : gr < wC.heap.size := blk_lt hI_.2.2.choose_spec.choose_spec.1;have HIe : Aside0 (RdI w (wC.alloc (Obj.cells #[.int .i64 x1,.int .i64 x2,.int .i64 x3,.string ⟨#[]⟩,.string ⟨#[]⟩] 55)) gr lC bC) := ⟨hI_.below (below_alloc (Below.refl _ _) _)⟩;have HVc : Aside0 ((wC.alloc (Obj.cells #[.int .i64 x1,.int .i64 x2,.int .i64 x3,.string ⟨#[]⟩,.string ⟨#[]⟩] 55)).heap[wC.heap.size]? = some (.cells #[.int .i64 x1,.int .i64 x2,.int .i64 x3,.string ⟨#[]⟩,.string ⟨#[]⟩] 55 (0,0))) := ⟨alloc_newD_ _ _ _ rfl⟩;clear hI_ hk_)
    |(go_at_call 60;(with_reducible refine (varint_Reader_Num.calls k gr lA bA 5 x2 lB bB w _ HIb.out Q2.out).mono ?_);rintro e wB ⟨rfl,hI_,hk_⟩;have HIc := Aside0.mk hI_;have HKc := Aside0.mk (KeepBut.trans HKb.out hk_ (.inl rfl));clear hI_ hk_)
    |(go_at_call 60;(with_reducible refine (varint_Reader_Num.calls k gr l b 1125899906842624 x1 lA bA w _ HIa.out Q1.out).mono ?_);rintro e wA ⟨rfl,hI_,hk_⟩;have HIb := Aside0.mk hI_;have HKb := Aside0.mk hk_;clear hI_ hk_))
    obtain ⟨g6, hg6⟩ : ∃ g, Aside0 (g = wC.heap.size) := ⟨_, ⟨rfl⟩⟩
    rw [← hg6.out] at HV y0 y1 y2 y3 y4 f3 f4 ⊢
    have hr6 : gr < g6 := by have := hg6.out; omega
    have HD8 : Aside0 (DecI w ((wE.setCell ⟨g6, 3, none⟩ (.string s1)).setCell ⟨g6, 4, none⟩ (.string s2)) gR gr g5 lE bE n1 n2 n3 acc [] vA (.slice none 0 0)) := by
     refine ⟨DecI.move HD.out ((HIg.out.set_ (by omega) (by omega)).set_ (by omega) (by omega)) (fun i hi hne => ?_) (by omega) (by omega)⟩
     have k1_ := HKd.out.1
     have k2_ := HKf.out.1
     have e6 := hg6.out
     have k3_ : i < (wC.alloc (Obj.cells #[.int .i64 x1, .int .i64 x2, .int .i64 x3, .string ⟨#[]⟩, .string ⟨#[]⟩] 55)).heap.size := by simp; omega
     refine (Below.heap_setCell _ _ _ i (by show i ≠ g6; omega)).trans ((Below.heap_setCell _ _ _ i (by show i ≠ g6; omega)).trans ?_)
     refine (HKg.out.2 i (by omega) hne (by simp)).trans ((HKf.out.2 i k3_ hne (by simp)).trans ?_)
     exact (Below.heap_alloc wC _ i (by omega)).trans (HKd.out.2 i hi hne (by simp))
    have HV8 : Aside0 (((wE.setCell ⟨g6,3,none⟩ (.string s1)).setCell ⟨g6,4,none⟩ (.string s2)).heap[g6]? = some (.cells #[.int .i64 x1,.int .i64 x2,.int .i64 x3,.string s1,.string s2] 55 (0,0))) := ⟨blk_set (blk_set HV.out 3 _) 4 _⟩
    clear y0 y1 y2 y3 y4 f3 f4 HV HIa HIb HIc HId HIe HIf HIg HKb HKc HKd HKf HKg HVc HVd Q1 Q2 Q3 Q4 Q5
    generalize (wE.setCell ⟨g6, 3, none⟩ (.string s1)).setCell ⟨g6, 4, none⟩ (.string s2) = W8 at HD8 HV8 ⊢
    obtain ⟨hI8, e5, eR, hA, hD⟩ := HD8.out
    obtain ⟨AA, cA, eA⟩ := Kd.R_slice hA
    subst eA
    obtain ⟨acc', hacc'⟩ : ∃ z, Aside0 (z = acc ++ [(⟨x1, x2, x3, s1, s2⟩ : S55)]) := ⟨_, ⟨rfl⟩⟩
    have HI8 := Aside0.mk hI8
    have E5 := Aside0.mk e5
    have ER := Aside0.mk eR
    have HA := Aside0.mk hA
    clear hI8 e5 eR hA hD HD8
    have u3 : W8.cell? ⟨g5, 3, none⟩ = some (.slice AA acc.length cA) := (blk_cell E5.out 3).trans rfl
    have z0 := (blk_cell HV8.out 0).trans rfl
    have z1 := (blk_cell HV8.out 1).trans rfl
    have z2 := (blk_cell HV8.out 2).trans rfl
    have z3 := (blk_cell HV8.out 3).trans rfl
    have z4 := (blk_cell HV8.out 4).trans rfl
    go_wp2_with (first|((with_reducible refine gate_builtin (b := .append) (xs := #[.tmp 37,.tmp 39]) rfl ?_);at_builtin;refine Kd.R_append_rows k55 (w0 := w) w.heap.size rfl (.tmp 37) (.tmp 39) 40 55 (.agg #[(.int .i64 0),(.int .i64 0),(.int .i64 0),(.string ⟨#[]⟩),(.string ⟨#[]⟩)]) 56 rfl Try.underlying40 info55 rfl (by decide) (by omega) (.slice AA acc.length cA) acc [(⟨x1,x2,x3,s1,s2⟩ : S55)] _ _ _ (fun _ => True) (fun _ => False) rfl rfl ?aO ?aR (fun _ _ h => h) (fun _ h => h.elim) ?aF ?aB ?aS ?aL ?_;(case aO => exact Kd.R_alloc HA.out _);(case aR => exact lit_C (alloc_newD_ _ _ _ rfl) (k55_mk _ _) rfl);(case aF => exact fun _ _ => trivial);(case aB => exact below_alloc HI8.out.2.1 _);(case aS => exact below_size (below_alloc HI8.out.2.1 _));(case aL => omega);intro v9 w9 ho hb hg hat;rw [← hacc'.out] at ho;obtain ⟨A9,c9,e9⟩ := Kd.R_slice ho;subst e9;have HO9 := Aside0.mk ho;have E59 := Aside0.mk (grown_far hg (Kd.R_alloc HA.out _) ((Below.heap_alloc W8 _ g5 (blk_lt E5.out)).trans E5.out) (by decide));have ER9 := Aside0.mk (grown_far hg (Kd.R_alloc HA.out _) ((Below.heap_alloc W8 _ gR (blk_lt ER.out)).trans ER.out) (by decide));have HI9 : Aside0 (RdI w w9 gr lE bE) := (by obtain ⟨i1,i2,iA,ic,i3,i4⟩ := HI8.out;exact ⟨⟨i1,hb,iA,ic,grown_far hg (Kd.R_alloc HA.out _) ((Below.heap_alloc W8 _ gr (blk_lt i3)).trans i3) (by decide),i4⟩⟩);have u9 : w9.cell? ⟨g5,3,none⟩ = some (.slice AA acc.length cA) := (blk_cell E59.out 3).trans rfl;have fz9 := blk_frozen E59.out 3;clear ho hb hg hat))
    have hw64 : wrap64 ((m : Int) + 1) = ((m + 1 : Nat) : Int) := by unfold wrap64; omega
    go_roundg k1
    case measure => omega
    case rel =>
     refine ⟨m + 1,lE,bE,acc',_,by first | rfl | rw [hw64],by omega,by rw [hacc'.out];exact HF,⟨HI9.out.set_ (by omega) (by omega),blk_set E59.out 3 _,(Below.heap_setCell w9 _ _ gR (by show gR ≠ g5;omega)).trans ER9.out,Kd.R_set HO9.out E59.out (by decide) 3 _,Kd.R_nil _ _ _ _ _⟩⟩
   ·rw [if_neg hac] at h_; cases h_
theorem numF.mono (l : List Int) (b : Bool) (most : Int) (k : Nat) : LeO (numF k l b most) (numF (k + 1) l b most) := by
 unfold numF
 exact LeO.bind (varint_Get.mono _ _) (fun _ => LeO.refl _)
theorem textF.mono (l : List Int) (b : Bool) (k : Nat) : LeO (textF k l b) (textF (k + 1) l b) := by
 unfold textF
 exact LeO.bind (varint_GetText.mono _ _) (fun _ => LeO.refl _)
theorem decFiles.mono : ∀ (m : Nat) (l : List Int) (b : Bool) (acc : List S55) (k : Nat), LeO (decFiles k m l b acc) (decFiles (k + 1) m l b acc)
 | 0, l, b, acc, k => LeO.refl _
 | m + 1, l, b, acc, k => by
  unfold decFiles
  exact LeO.bind (numF.mono _ _ _ _) (fun p1 => LeO.bind (numF.mono _ _ _ _) (fun p2 => LeO.bind (numF.mono _ _ _ _) (fun p3 => LeO.bind (textF.mono _ _ _) (fun s1 => LeO.bind (textF.mono _ _ _) (fun s2 => LeO.ite (decFiles.mono m _ _ _ k) (LeO.refl _))))))
theorem decDels.mono : ∀ (m : Nat) (l : List Int) (b : Bool) (acc : List Int) (k : Nat), LeO (decDels k m l b acc) (decDels (k + 1) m l b acc)
 | 0, l, b, acc, k => LeO.refl _
 | m + 1, l, b, acc, k => by
  unfold decDels
  exact LeO.bind (numF.mono _ _ _ _) (fun p1 => LeO.ite (decDels.mono m _ _ _ k) (LeO.refl _))
theorem edit_Decode.mono : ∀ a0 k, LeO (edit_Decode.f k a0) (edit_Decode.f (k + 1) a0) := by
 intro a0 k
 unfold edit_Decode.f
 exact LeO.bind (numF.mono _ _ _ _) (fun p1 => LeO.bind (numF.mono _ _ _ _) (fun p2 => LeO.bind (numF.mono _ _ _ _) (fun p3 => LeO.bind (numF.mono _ _ _ _) (fun p4 => LeO.bind (decFiles.mono _ _ _ _ _) (fun q1 => LeO.bind (numF.mono _ _ _ _) (fun p5 => LeO.bind (decDels.mono _ _ _ _ _) (fun q2 => LeO.ite (LeO.bind (edit_Encode.mono _ _ _ _ _ _) (fun c => LeO.refl _)) (LeO.refl _))))))))

/-! ### incipitlaw19_begun: function 23, by hand (f is none where the answer is not true; types and functions of seat c) -/
/-- A whole struct of type 43 laid into its block. -/
def set43_ (W : World) (g : Nat) (v0 v1 v2 : Int) (v3 v4 : Value) : World := (((((W.setCell ⟨g,0,none⟩ (.int .i64 v0)).setCell ⟨g,1,none⟩ (.int .i64 v1)).setCell ⟨g,2,none⟩ (.int .i64 v2)).setCell ⟨g,3,none⟩ v3).setCell ⟨g,4,none⟩ v4)
theorem set43_facts (W : World) (g : Nat) (o0 o1 o2 : Int) (o3 o4 : Value) (v0 v1 v2 : Int) (v3 v4 : Value) (hg : W.heap[g]? = some (.cells #[.int .i64 o0,.int .i64 o1,.int .i64 o2,o3,o4] 43 (0,0))) :
  (set43_ W g v0 v1 v2 v3 v4).heap[g]? = some (.cells #[.int .i64 v0,.int .i64 v1,.int .i64 v2,v3,v4] 43 (0,0)) ∧ (∀ h,h ≠ g → (set43_ W g v0 v1 v2 v3 v4).heap[h]? = W.heap[h]?) ∧ (∀ w : World,Below w.heap.size w W → w.heap.size ≤ g → Below w.heap.size w (set43_ W g v0 v1 v2 v3 v4)) := by
 refine ⟨?_, ?_, ?_⟩
 ·exact blk_put (blk_put (blk_put (blk_put (blk_put hg 0 _ rfl) 1 _ rfl) 2 _ rfl) 3 _ rfl) 4 _ rfl
 ·intro h hh
  exact (Below.heap_setCell _ ⟨g,4,none⟩ _ _ hh).trans ((Below.heap_setCell _ ⟨g,3,none⟩ _ _ hh).trans ((Below.heap_setCell _ ⟨g,2,none⟩ _ _ hh).trans ((Below.heap_setCell _ ⟨g,1,none⟩ _ _ hh).trans (Below.heap_setCell _ ⟨g,0,none⟩ _ _ hh))))
 ·intro w hb hge
  exact below_set (below_set (below_set (below_set (below_set hb hge) hge) hge) hge) hge
def incipitlaw19_begun.f (k : Nat) : Option Bool :=
 (edit_Encode.f k 5 0 0 ([(⟨3,1,0,(⟨#[97]⟩ : ByteArray),(⟨#[98]⟩ : ByteArray)⟩ : S55)] : List (S55)) ([] : List Int)).bind fun p => (edit_Decode.f k p.1).bind fun q => (edit_Decode.f k ([106,117,110,107] : List Int)).bind fun z =>
 if p.2 = 0 ∧ q.2.2.2.2.2 = 0 ∧ q.1 = 5 ∧ q.2.2.2.1.length = 1 ∧ ((rd_T55 q.2.2.2.1 0).f4).toList = ([98] : List UInt8) ∧ z.2.2.2.2.2 = 8 then some true else none
theorem incipitlaw19_begun.mono : ∀ k, LeO (incipitlaw19_begun.f k) (incipitlaw19_begun.f (k + 1)) := by
 intro k
 unfold incipitlaw19_begun.f
 exact LeO.bind (edit_Encode.mono _ _ _ _ _ k) fun p => LeO.bind (edit_Decode.mono _ k) fun q => LeO.bind (edit_Decode.mono _ k) fun z => LeO.refl _
set_option maxHeartbeats 80000000 in
set_option maxRecDepth 100000 in
theorem incipitlaw19_begun.calls (k : Nat) (r : Bool) (w : World) (hrt : r = true) (h : incipitlaw19_begun.f k = some r) :
  Calls Try.prog 23 #[] w fun e w' => e = .returned (.bool r) ∧ Below w.heap.size w w' := by
 clear hrt
 have hu55 := Try.underlying55
 have hu43 := Try.underlying43
 have HB := Aside0.mk (Below.refl w.heap.size w)
 unfold incipitlaw19_begun.f at h
 obtain ⟨y151, hy151⟩ : ∃ y_ : List (S55), y_ = (([(⟨3, 1, 0, (⟨#[97]⟩ : ByteArray), (⟨#[98]⟩ : ByteArray)⟩ : S55)] : List (S55))) := ⟨_, rfl⟩
 obtain ⟨y169, hy169⟩ : ∃ y_ : List Int, y_ = (([106, 117, 110, 107] : List Int)) := ⟨_, rfl⟩
 rw [← hy151, ← hy169] at h
 have Ny151 := Aside0.mk hy151
 have Ny169 := Aside0.mk hy169
 clear hy151 hy169
 obtain ⟨⟨t154, t157⟩, h1, h⟩ := Option.bind_eq_some_iff.mp h
 obtain ⟨⟨t158, t159, t160, t161, t164, t167⟩, h2, h⟩ := Option.bind_eq_some_iff.mp h
 obtain ⟨⟨t172, t173, t174, t175, t178, t181⟩, h3, h⟩ := Option.bind_eq_some_iff.mp h
 have A1 := Aside0.mk h1
 have A2 := Aside0.mk h2
 have A3 := Aside0.mk h3
 have hq : (t157 = 0 ∧ t167 = 0 ∧ t158 = 5 ∧ t161.length = 1 ∧ ((rd_T55 t161 0).f4).toList = ([98] : List UInt8) ∧ t181 = 8) ∧ r = true := by
  dsimp only at h
  split at h
  ·rename_i hc
   exact ⟨hc, (Option.some.inj h).symm⟩
  ·cases h
 clear h h1 h2 h3
 obtain ⟨HC, rfl⟩ := hq
 replace HC := Aside0.mk HC
 go_enter Try.func23, Try.ntmps23
 go_upto_region 3 with (first|((with_reducible refine gate_dst (N := 9) rfl ?_);(try (refine gate_guard (by rfl) ?_;dsimp only));refine Kd.R_lit k55 _ 55 ?hg (N := 9) ?hd (xs := ([(⟨3,1,0,(⟨#[97]⟩ : ByteArray),(⟨#[98]⟩ : ByteArray)⟩ : S55)] : List (S55))) (inner := [.int .i64 3,.int .i64 1,.int .i64 0,.string (⟨#[97]⟩ : ByteArray),.string (⟨#[98]⟩ : ByteArray)]) (ok := fun _ => True) (okp := fun _ => True) ?hr ?hp (fun _ hk => hk) trivial (Below.refl _ _) (Nat.le_refl _) (by simp) ?_;(case hd => rfl);(case hg => rfl);(case hr => first|(go_simp;done)|(go_simp;rfl));(case hp => exact (Reps.c5 (show Kd.M k55 _ _ _ (⟨3,1,0,(⟨#[97]⟩ : ByteArray),(⟨#[98]⟩ : ByteArray)⟩ : S55) [.int .i64 3,.int .i64 1,.int .i64 0,.string (⟨#[97]⟩ : ByteArray),.string (⟨#[98]⟩ : ByteArray)] from (k55_mkM _ _ _ (⟨3,1,0,(⟨#[97]⟩ : ByteArray),(⟨#[98]⟩ : ByteArray)⟩ : S55) )) (Reps.none _ _)));intro v152 w10 ho11 hb hg_ hnew_;clear hg_ hnew_;(first | rw [← Ny151.out] at ho11|(simp only [Int.reduceToNat] at ho11;rw [← Ny151.out] at ho11));have n0_ := Aside0.mk (Kd.R_lower ho11 (below_size (by repeat (first|(with_reducible first|exact HB.out|apply below_alloc|apply pw_below_drewN|apply below_drew1)|exact HB.out))));have n1_ := Aside0.mk (below_step (by repeat (first|(with_reducible first|exact HB.out|apply below_alloc|apply pw_below_drewN|apply below_drew1)|exact HB.out)) hb);clear HB;have HO153 := n0_;have HB := n1_;clear n0_ n1_;clear hb ho11;obtain ⟨Ao12,co12,eo12⟩ := Kd.R_slice HO153.out;subst eo12)|((with_reducible refine gate_callee (f := 25) rfl ?_);refine goesL_ (some 11) rfl rfl Try.func25 (by kernel_rfl) rfl #[.agg #[.int .i64 5,.int .i64 0,.int .i64 0,.slice Ao12 y151.length co12,.slice none 0 0]] rfl (by (try simp only [List.map_toArray,List.map_cons,List.map_nil]);first | done | rfl|(simp only [List.length_drop,List.length_take];rfl)) ?_;(refine (edit_Encode.calls k 5 0 0 _ _ y151 _ _ ([] : List Int) t154 t157 _ ?side1 ?side2 ?side3 ?side4 A1.out).mono ?_);(case side1 => repeat (first|exact (Kd.R_reads' HO153.out).2.2|(with_reducible refine Kd.C_alloc ?_ _)|(with_reducible refine Kd.C_drewN ?_ _)|(with_reducible refine Kd.C_drew ?_)));(case side2 => exact (Kd.R_reads' HO153.out).2.1);(case side3 => exact Kd.C_nil _ _);(case side4 => exact Nat.le_refl _);rintro e w13 ⟨v155,rfl,ho0,hb⟩;refine ⟨_,rfl,?_⟩;have n0_ := Aside0.mk (Kd.R_below (by (with_reducible repeat (first|apply Kd.R_alloc|apply Kd.R_drewN|apply Kd.R_drew));exact HO153.out) hb);have n1_ := Aside0.mk (Kd.R_lower ho0 (below_size (by repeat (first|(with_reducible first|exact HB.out|apply below_alloc|apply pw_below_drewN|apply below_drew1)|exact HB.out))));have n2_ := Aside0.mk (below_step (by repeat (first|(with_reducible first|exact HB.out|apply below_alloc|apply pw_below_drewN|apply below_drew1)|exact HB.out)) hb);clear HO153;clear HB;have HO153 := n0_;have HO156 := n1_;have HB := n2_;clear n0_ n1_ n2_;(try clear hb);(try clear hb2);(try clear hk);(try clear hi);(try clear ho0);obtain ⟨Ao14,co14,eo14⟩ := Kd.R_slice HO156.out;subst eo14)|((with_reducible refine gate_callee (f := 28) rfl ?_);refine goesL_ (some 16) rfl rfl Try.func28 (by kernel_rfl) rfl #[.slice Ao14 t154.length co14] rfl (by (try simp only [List.map_toArray,List.map_cons,List.map_nil]);first | done | rfl|(simp only [List.length_drop,List.length_take];rfl)) ?_;(with_reducible refine (edit_Decode.calls k _ _ t154 t158 t159 t160 t161 t164 t167 _ ?side1 ?side2 A2.out).mono ?_);(case side1 => repeat (first|exact (Kd.R_reads' HO156.out).2.2|(with_reducible refine Kd.C_alloc ?_ _)|(with_reducible refine Kd.C_drewN ?_ _)|(with_reducible refine Kd.C_drew ?_)));(case side2 => exact (Kd.R_reads' HO156.out).2.1);rintro e w15 ⟨v162,v165,rfl,ho0,ho1,hb⟩;refine ⟨_,rfl,?_⟩;have n0_ := Aside0.mk (Kd.R_elder' (by (with_reducible repeat (first|apply Kd.R_alloc|apply Kd.R_drewN|apply Kd.R_drew));exact HO153.out) (Kd.R_base ho0) hb);have n1_ := Aside0.mk (Kd.R_below (by (with_reducible repeat (first|apply Kd.R_alloc|apply Kd.R_drewN|apply Kd.R_drew));exact HO156.out) hb);have n2_ := Aside0.mk (Kd.R_lower (Kd.R_new' ho0 (Kd.R_lt (by (with_reducible repeat (first|apply Kd.R_alloc|apply Kd.R_drewN|apply Kd.R_drew));exact HO153.out))) (below_size (by repeat (first|(with_reducible first|exact HB.out|apply below_alloc|apply pw_below_drewN|apply below_drew1)|exact HB.out))));have n3_ := Aside0.mk (Kd.R_lower ho1 (below_size (by repeat (first|(with_reducible first|exact HB.out|apply below_alloc|apply pw_below_drewN|apply below_drew1)|exact HB.out))));have n4_ := Aside0.mk (below_step (by repeat (first|(with_reducible first|exact HB.out|apply below_alloc|apply pw_below_drewN|apply below_drew1)|exact HB.out)) hb);clear HO153;clear HO156;clear HB;have HO153 := n0_;have HO156 := n1_;have HO163 := n2_;have HO166 := n3_;have HB := n4_;clear n0_ n1_ n2_ n3_ n4_;(try clear hb);(try clear hb2);(try clear hk);(try clear hi);(try clear ho0);(try clear ho1))|((with_reducible refine gate_dst (N := 3) rfl ?_);(try (refine gate_guard (by rfl) ?_;dsimp only));refine box_event ?hg (N := 3) ?hd (cs := #[.int .i64 0,.int .i64 0,.int .i64 0,.slice none 0 0,.slice none 0 0]) (t := 43) ?hr ?_;(case hd => rfl);(case hg => rfl);(case hr => first|(go_simp;done)|(go_simp;rfl));intro gb168 hg w16 hbox hb;have n0_ := Aside0.mk (Kd.R_below (by (with_reducible repeat (first|apply Kd.R_alloc|apply Kd.R_drewN|apply Kd.R_drew));exact HO153.out) hb);have n1_ := Aside0.mk (Kd.R_below (by (with_reducible repeat (first|apply Kd.R_alloc|apply Kd.R_drewN|apply Kd.R_drew));exact HO156.out) hb);have n2_ := Aside0.mk (Kd.R_below (by (with_reducible repeat (first|apply Kd.R_alloc|apply Kd.R_drewN|apply Kd.R_drew));exact HO163.out) hb);have n3_ := Aside0.mk (Kd.R_below (by (with_reducible repeat (first|apply Kd.R_alloc|apply Kd.R_drewN|apply Kd.R_drew));exact HO166.out) hb);have n4_ := Aside0.mk (below_step (by repeat (first|(with_reducible first|exact HB.out|apply below_alloc|apply pw_below_drewN|apply below_drew1)|exact HB.out)) hb);have n5_ := Aside0.mk (hbox);have n6_ := Aside0.mk ((by rw [hg];exact (below_size (by repeat (first|(with_reducible first|exact HB.out|apply below_alloc|apply pw_below_drewN|apply below_drew1)|exact HB.out))) : w.heap.size ≤ gb168));have n7_ := Aside0.mk ((by rw [hg];exact (below_size (by repeat (first|(with_reducible first|exact HB.out|apply below_alloc|apply pw_below_drewN|apply below_drew1)|exact HB.out))) : w.heap.size ≤ gb168));clear HO153;clear HO156;clear HO163;clear HO166;clear HB;have HO153 := n0_;have HO156 := n1_;have HO163 := n2_;have HO166 := n3_;have HB := n4_;have BK168 := n5_;have GW168 := n6_;have GE168 := n7_;clear n0_ n1_ n2_ n3_ n4_ n5_ n6_ n7_;clear hb hbox hg;have hcz17_0 : w16.cell? ⟨gb168,0,none⟩ = some (.int .i64 0) := (blk_cell BK168.out 0).trans rfl;have hcz17_1 : w16.cell? ⟨gb168,1,none⟩ = some (.int .i64 0) := (blk_cell BK168.out 1).trans rfl;have hcz17_2 : w16.cell? ⟨gb168,2,none⟩ = some (.int .i64 0) := (blk_cell BK168.out 2).trans rfl;have hcz17_3 : w16.cell? ⟨gb168,3,none⟩ = some (.slice none 0 0) := (blk_cell BK168.out 3).trans rfl;have hcz17_4 : w16.cell? ⟨gb168,4,none⟩ = some (.slice none 0 0) := (blk_cell BK168.out 4).trans rfl;have hfz17_0 := blk_frozen BK168.out 0;have hfz17_1 := blk_frozen BK168.out 1;have hfz17_2 := blk_frozen BK168.out 2;have hfz17_3 := blk_frozen BK168.out 3;have hfz17_4 := blk_frozen BK168.out 4;obtain ⟨Ao18,co18,eo18⟩ := Kd.R_slice HO163.out;subst eo18;obtain ⟨Ao19,co19,eo19⟩ := Kd.R_slice HO166.out;subst eo19))
 have RC := Aside0.mk (show Kd.R k55 55 (set43_ w16 gb168 t158 t159 t160 (.slice Ao18 t161.length co18) (.slice Ao19 t164.length co19)) w.heap.size (fun _ => True) (.slice Ao18 t161.length co18) t161 from (Kd.R_mono (Kd.R_far (p := ⟨gb168,4,none⟩) (Kd.R_far (p := ⟨gb168,3,none⟩) (Kd.R_far (p := ⟨gb168,2,none⟩) (Kd.R_far (p := ⟨gb168,1,none⟩) (Kd.R_far (p := ⟨gb168,0,none⟩) (Kd.R_types HO163.out BK168.out (by decide)) (fun _ hk => hk.2) (.int .i64 t158)) (fun _ hk => hk.2) (.int .i64 t159)) (fun _ hk => hk.2) (.int .i64 t160)) (fun _ hk => hk.2) (.slice Ao18 t161.length co18)) (fun _ hk => hk.2) (.slice Ao19 t164.length co19)) (fun _ _ => trivial)))
 obtain ⟨G_, O_, B_⟩ := set43_facts w16 gb168 0 0 0 (.slice none 0 0) (.slice none 0 0) t158 t159 t160 (.slice Ao18 t161.length co18) (.slice Ao19 t164.length co19) BK168.out
 have HB1 := Aside0.mk (B_ w HB.out GE168.out)
 have BK1 := Aside0.mk G_
 rw [show ((((w16.setCell ⟨gb168,0,none⟩ (.int .i64 t158)).setCell ⟨gb168,1,none⟩ (.int .i64 t159)).setCell ⟨gb168,2,none⟩ (.int .i64 t160)).setCell ⟨gb168,3,none⟩ (.slice Ao18 t161.length co18)).setCell ⟨gb168,4,none⟩ (.slice Ao19 t164.length co19) = set43_ w16 gb168 t158 t159 t160 (.slice Ao18 t161.length co18) (.slice Ao19 t164.length co19) from rfl]
 clear G_ O_ B_
 generalize set43_ w16 gb168 t158 t159 t160 (.slice Ao18 t161.length co18) (.slice Ao19 t164.length co19) = W1 at RC HB1 BK1 ⊢
 clear HO153 HO156 HO163 HO166 HB BK168 hcz17_0 hcz17_1 hcz17_2 hcz17_3 hcz17_4 hfz17_0 hfz17_1 hfz17_2 hfz17_3 hfz17_4
 have HW := Aside0.mk (Below.refl W1.heap.size W1)
 go_upto_region 4 with (first|((with_reducible refine gate_dst (N := 21) rfl ?_);(try (refine gate_guard (by rfl) ?_;dsimp only));refine lit_bytes 28 5 W1.heap.size rfl (N := 21) rfl (x := .tmp 20) rfl Try.underlying28 Try.underlying5 ([106,117,110,107] : List Int) rfl rfl (by decide) ?_;intro v170 w20 ho21 hb;(first | rw [← Ny169.out] at ho21|(simp only [Int.reduceToNat] at ho21;rw [← Ny169.out] at ho21));have HL := Aside0.mk ho21;have n0_ := Aside0.mk (below_step HW.out hb);clear HW;have HW := n0_;clear n0_ hb ho21;obtain ⟨Ao22,co22,eo22⟩ := Kd.V_slice HL.out;subst eo22)|((with_reducible refine gate_callee (f := 28) rfl ?_);refine goesL_ (some 22) rfl rfl Try.func28 (by kernel_rfl) rfl #[.slice Ao22 y169.length co22] rfl (by (try simp only [List.map_toArray,List.map_cons,List.map_nil]);first | done | rfl|(simp only [List.length_drop,List.length_take];rfl)) ?_;(with_reducible refine (edit_Decode.calls k _ _ y169 t172 t173 t174 t175 t178 t181 _ ?side1 ?side2 A3.out).mono ?_);(case side1 => repeat (first|exact (Kd.V_reads' HL.out).2.2|(with_reducible refine Kd.C_alloc ?_ _)|(with_reducible refine Kd.C_drewN ?_ _)|(with_reducible refine Kd.C_drew ?_)));(case side2 => exact (Kd.V_reads' HL.out).2.1);rintro e w23 ⟨v176,v179,rfl,ho0,ho1,hb⟩;refine ⟨_,rfl,?_⟩;have n0_ := Aside0.mk (below_step HW.out hb);clear HW;have HW := n0_;clear n0_ HL;obtain ⟨Ao27,co27,eo27⟩ := Kd.R_slice ho0;subst eo27;obtain ⟨Ao28,co28,eo28⟩ := Kd.R_slice ho1;subst eo28;clear ho0 ho1 hb)|((with_reducible refine gate_dst (N := 5) rfl ?_);(try (refine gate_guard (by rfl) ?_;dsimp only));refine box_event ?hg (N := 5) ?hd (cs := #[.int .i64 0,.int .i64 0,.int .i64 0,.slice none 0 0,.slice none 0 0]) (t := 43) ?hr ?_;(case hd => rfl);(case hg => rfl);(case hr => first|(go_simp;done)|(go_simp;rfl));intro gb182 hg w24 hbox hb;have n0_ := Aside0.mk (below_step HW.out hb);have GE182 := Aside0.mk (show W1.heap.size ≤ gb182 by rw [hg];exact below_size HW.out);clear HW;have HW := n0_;have BK182 := Aside0.mk hbox;clear n0_ hb hg hbox;have hcz26_0 : w24.cell? ⟨gb182,0,none⟩ = some (.int .i64 0) := (blk_cell BK182.out 0).trans rfl;have hcz26_1 : w24.cell? ⟨gb182,1,none⟩ = some (.int .i64 0) := (blk_cell BK182.out 1).trans rfl;have hcz26_2 : w24.cell? ⟨gb182,2,none⟩ = some (.int .i64 0) := (blk_cell BK182.out 2).trans rfl;have hcz26_3 : w24.cell? ⟨gb182,3,none⟩ = some (.slice none 0 0) := (blk_cell BK182.out 3).trans rfl;have hcz26_4 : w24.cell? ⟨gb182,4,none⟩ = some (.slice none 0 0) := (blk_cell BK182.out 4).trans rfl;have hfz26_0 := blk_frozen BK182.out 0;have hfz26_1 := blk_frozen BK182.out 1;have hfz26_2 := blk_frozen BK182.out 2;have hfz26_3 := blk_frozen BK182.out 3;have hfz26_4 := blk_frozen BK182.out 4))
 obtain ⟨G_, O_, B_⟩ := set43_facts w24 gb182 0 0 0 (.slice none 0 0) (.slice none 0 0) t172 t173 t174 (.slice Ao27 t175.length co27) (.slice Ao28 t178.length co28) BK182.out
 have HW2 := Aside0.mk (B_ W1 HW.out GE182.out)
 rw [show ((((w24.setCell ⟨gb182,0,none⟩ (.int .i64 t172)).setCell ⟨gb182,1,none⟩ (.int .i64 t173)).setCell ⟨gb182,2,none⟩ (.int .i64 t174)).setCell ⟨gb182,3,none⟩ (.slice Ao27 t175.length co27)).setCell ⟨gb182,4,none⟩ (.slice Ao28 t178.length co28) = set43_ w24 gb182 t172 t173 t174 (.slice Ao27 t175.length co27) (.slice Ao28 t178.length co28) from rfl]
 clear G_ O_ B_
 generalize set43_ w24 gb182 t172 t173 t174 (.slice Ao27 t175.length co27) (.slice Ao28 t178.length co28) = W2 at HW2 ⊢
 clear HW BK182 hcz26_0 hcz26_1 hcz26_2 hcz26_3 hcz26_4 hfz26_0 hfz26_1 hfz26_2 hfz26_3 hfz26_4
 have BK2 := Aside0.mk (blk_below BK1.out HW2.out)
 obtain ⟨c1, c2, c3, c4, c5, c6⟩ := HC.out
 have RC2 := Aside0.mk (Kd.C_below (Kd.R_reads' RC.out).2.2 HW2.out)
 have hfin := Aside0.mk (below_step HB1.out HW2.out)
 clear HC HW2 HB1 RC BK1
 have c1' : (t157 = 0) = True := eq_true c1
 have c2' : (t167 = 0) = True := eq_true c2
 have c3' : (t158 = 5) = True := eq_true c3
 have c6' : (t181 = 8) = True := eq_true c6
 have k1 : (t157 == 0) = true := beq_iff_eq.mpr c1
 have k2 : (t167 == 0) = true := beq_iff_eq.mpr c2
 have k3 : (t158 == 5) = true := beq_iff_eq.mpr c3
 have k6 : (t181 == 8) = true := beq_iff_eq.mpr c6
 have k4 : ((t161.length : Int) == 1) = true := beq_iff_eq.mpr (by omega)
 have k4' : decide (0 < (t161.length : Int)) = true := decide_eq_true (by omega)
 have k4'' : (0 < t161.length) = True := eq_true (by omega)
 have k5 : (((rd_T55 t161 0).f4).toList == ([98] : List UInt8)) = true := beq_iff_eq.mpr c5
 have hz0 : W2.cell? ⟨gb168, 0, none⟩ = some (.int .i64 t158) := (blk_cell BK2.out 0).trans rfl
 have hz3 : W2.cell? ⟨gb168, 3, none⟩ = some (.slice Ao18 t161.length co18) := (blk_cell BK2.out 3).trans rfl
 have p183 : 0 ≤ (0 : Int) := by omega
 have q183 : 0 < (t161.length : Int) := by omega
 obtain ⟨ad183, e183, hx183_0, hx183_1, hx183_2, hx183_3, hx183_4⟩ := at_T55 RC2.out 0 p183 q183
 cases e183
 rw [show ((0 : Int)).toNat = 0 from rfl, show 0 * 5 = 0 from rfl, Addr.add_zero'] at hx183_4
 clear hx183_0 hx183_1 hx183_2 hx183_3 c1 c2 c3 c4 c5 c6
 replace p183 := eq_true p183
 replace q183 := eq_true q183
 go_wp2
 go_ret
 exact ⟨rfl, hfin.out⟩

/-! ### incipitlaw1_Cut: function 39 -/
def incipitlaw1_Cut.f (a0 : ByteArray) (a1 : Int) : Option (ByteArray) := if (a0.size : Int) > a1 then (if 0 ≤ a1 then (if a1 ≤ (a0.size : Int) then (some (a0.extract 0 (a1 : Int).toNat)) else (none)) else (none)) else (some a0)
set_option maxHeartbeats 80000000 in
set_option maxRecDepth 100000 in
theorem incipitlaw1_Cut.calls (a0 : ByteArray) (a1 : Int) (r : ByteArray) (w : World) (h : incipitlaw1_Cut.f a0 a1 = some r) :
  Calls Try.prog 39 #[.string a0, .int .i64 a1] w fun e w' => e = .returned (.string r) ∧ Drawn0 w w' := by
 have H : (if (a0.size : Int) > a1 then (if 0 ≤ a1 then (if a1 ≤ (a0.size : Int) then (some (a0.extract 0 (a1 : Int).toNat)) else (none)) else (none)) else (some a0)) = some r := h
 clear h
 by_cases c3 : (a0.size : Int) > a1
 ·rw [if_pos c3] at H
  have c3b0 : decide (a1 < (a0.size : Int)) = true := decide_eq_true c3
  clear c3
  by_cases c4 : 0 ≤ a1
  ·rw [if_pos c4] at H
   have c4b0 := eq_true c4
   have c4b1 : decide (0 ≤ a1) = true := decide_eq_true c4
   clear c4
   by_cases c5 : a1 ≤ (a0.size : Int)
   ·rw [if_pos c5] at H
    have c5b0 := eq_true c5
    have c5b1 : decide (a1 ≤ (a0.size : Int)) = true := decide_eq_true c5
    clear c5
    obtain rfl := Option.some.inj H
    simp only [Option.some.injEq, Prod.mk.injEq] at H
    obtain ⟨rfl⟩ := H
    go_enter Try.func39, Try.ntmps39
    go_wp2
    go_ret
    exact ⟨by first | rfl|(simp; done)|(simp [*]; done), by repeat (first|exact Drawn0.refl _|apply Drawn0.step)⟩
   ·rw [if_neg c5] at H
    exact absurd H (by simp)
  ·rw [if_neg c4] at H
   exact absurd H (by simp)
 ·rw [if_neg c3] at H
  have c3b0 : decide (a1 < (a0.size : Int)) = false := decide_eq_false c3
  clear c3
  obtain rfl := Option.some.inj H
  simp only [Option.some.injEq, Prod.mk.injEq] at H
  obtain ⟨rfl⟩ := H
  go_enter Try.func39, Try.ntmps39
  go_wp2
  go_ret
  exact ⟨by first | rfl|(simp; done)|(simp [*]; done), by repeat (first|exact Drawn0.refl _|apply Drawn0.step)⟩

end Go.Proofs.Ytoglanahjlfihaa.MEdt
