-- Written by a program of this session for this claim (out of the translation's print); Lean checks it.
import Derived.Test.YthpeieieibbbgaaMFltx0
namespace Go.Proofs.Ythpeieieibbbgaa.MFlt
open Go.RowKit Go.Proofs.YthpeieieibbbgaaW.PrintWords Go.Proofs.YthpeieieibbbgaaW.PrintLast Go.Proofs.YthpeieieibbbgaaW.PrintMore
attribute [local go_sem] max2_int min2_int max_two min_two max_three min_three max_four min_four   -- for this text's walks alone
set_option linter.unusedVariables false
set_option linter.unusedSimpArgs false

/-! ### ckey_Hash: function 53 -/
def ckey_Hash.l0 : Nat → ByteArray → Int → Int → Int → Option (Int)
  | 0, _, _, _, _ => none
  | k + 1, x0, x3, x6, x7 => if x7 < x6 then (if 0 ≤ x7 then (if x7 < (x0.size : Int) then (ckey_Hash.l0 k x0 (IntKind.u64.wrap ((Go.bits .xor .u64 x3 (IntKind.u64.wrap (bt x0 x7))) * 1099511628211)) x6 (wrap64 (x7 + 1))) else (none)) else (none)) else (some x3)
def ckey_Hash.f (k : Nat) (a0 : ByteArray) : Option (Int) := ckey_Hash.l0 k a0 14695981039346656037 (a0.size : Int) 0
theorem ckey_Hash.mono_l : ∀ k, (∀ y0 y1 y2 y3, LeO (ckey_Hash.l0 k y0 y1 y2 y3) (ckey_Hash.l0 (k + 1) y0 y1 y2 y3))
  | 0 => fun _ _ _ _ r h => by simp [ckey_Hash.l0] at h
  | k + 1 => by
    have ih0 := ckey_Hash.mono_l k
    · intro y0 y1 y2 y3
      unfold ckey_Hash.l0
      repeat' first
      | (with_reducible exact ih0 _ _ _ _)
      | (with_reducible exact LeO.refl _)
      | (with_reducible exact LeO.none _)
      | (with_reducible refine LeO.ite ?_ ?_)
      | (with_reducible refine LeO.bind ?_ (fun _ => ?_))
      | exact ih0 _ _ _ _
      | exact LeO.none _
      | refine LeO.ite ?_ ?_
      | refine LeO.bind ?_ (fun _ => ?_)
theorem ckey_Hash.mono : ∀ a0 k, LeO (ckey_Hash.f k a0) (ckey_Hash.f (k + 1) a0) := by
  intro a0 k
  have ih0 := ckey_Hash.mono_l k
  unfold ckey_Hash.f
  repeat' first
      | (with_reducible exact ih0 _ _ _ _)
      | (with_reducible exact LeO.refl _)
      | (with_reducible exact LeO.none _)
      | (with_reducible refine LeO.ite ?_ ?_)
      | (with_reducible refine LeO.bind ?_ (fun _ => ?_))
      | exact ih0 _ _ _ _
      | exact LeO.none _
      | refine LeO.ite ?_ ?_
      | refine LeO.bind ?_ (fun _ => ?_)
set_option maxHeartbeats 80000000 in
set_option maxRecDepth 100000 in
theorem ckey_Hash.calls (k : Nat) (a0 : ByteArray) (r : Int) (w : World) (h : ckey_Hash.f k a0 = some r) :
    Calls Try.prog 53 #[.string a0] w fun e w' => e = .returned (.int .u64 r) ∧ Drawn0 w w' := by
  have H : (ckey_Hash.l0 k a0 14695981039346656037 (a0.size : Int) 0) = some r := h
  clear h
  have H' := Aside0.mk H
  clear H
  go_enter Try.func53, Try.ntmps53
  go_wp2
  go_loopg [3, 7] k (fun kq v3 v7 w' => ∃ (x3_1 : Int) (x7_1 : Int), v3 = .int .u64 x3_1 ∧ v7 = .int .i64 x7_1 ∧ Aside0 (ckey_Hash.l0 kq a0 x3_1 (a0.size : Int) x7_1 = some r) ∧ Aside0 (kq ≤ k) ∧ Drawn0 w w')
  case atStart => exact ⟨(14695981039346656037), (0), (by first | rfl | (simp; done) | (simp [*]; done)), (by first | rfl | (simp; done) | (simp [*]; done)), H', ⟨Nat.le_refl _⟩, by repeat (first | exact Drawn0.refl _ | apply Drawn0.step)⟩
  case round =>
    clear H'
    obtain ⟨x3_1, x7_1, rfl, rfl, HA, HK1, ⟨m1, rfl⟩⟩ := hrel
    cases gk with
    | zero => exact absurd HA.out (by simp [ckey_Hash.l0])
    | succ k1 =>
      have H := HA.out
      clear HA
      simp only [ckey_Hash.l0] at H
      by_cases c2 : x7_1 < (a0.size : Int)
      · rw [if_pos c2] at H
        have c2b0 : decide (x7_1 < (a0.size : Int)) = true := decide_eq_true c2
        clear c2
        by_cases c3 : 0 ≤ x7_1
        · rw [if_pos c3] at H
          have c3b0 : decide (0 ≤ x7_1) = true := decide_eq_true c3
          clear c3
          by_cases c4 : x7_1 < (a0.size : Int)
          · rw [if_pos c4] at H
            have c4b0 : decide (x7_1 < (a0.size : Int)) = true := decide_eq_true c4
            clear c4
            have H' := Aside0.mk H
            clear H
            have p5 : 0 ≤ (x7_1 : Int) := of_decide_eq_true (by first | (with_reducible assumption) | assumption)
            have q5 : x7_1 < (a0.size : Int) := of_decide_eq_true (by first | (with_reducible assumption) | assumption)
            have hx5 := bt_at a0 x7_1
            replace p5 := eq_true p5
            replace q5 := eq_true q5
            go_wp2
            go_roundg k1
            case measure => have := HK1.out; omega
            case rel => exact ⟨(IntKind.u64.wrap ((Go.bits .xor .u64 x3_1 (IntKind.u64.wrap (bt a0 x7_1))) * 1099511628211)), (wrap64 (x7_1 + 1)), (by first | rfl | (simp; done) | (simp [*]; done)), (by first | rfl | (simp; done) | (simp [*]; done)), H', ⟨by have := HK1.out; omega⟩, by repeat (first | exact Drawn0.refl _ | apply Drawn0.step)⟩
          · rw [if_neg c4] at H
            exact absurd H (by simp)
        · rw [if_neg c3] at H
          exact absurd H (by simp)
      · rw [if_neg c2] at H
        have c2b0 : decide (x7_1 < (a0.size : Int)) = false := decide_eq_false c2
        clear c2
        obtain rfl := Option.some.inj H
        simp only [Option.some.injEq, Prod.mk.injEq] at H
        obtain ⟨rfl⟩ := H
        go_wp2
        go_ret
        exact ⟨by first | rfl | (simp; done) | (simp [*]; done), by repeat (first | exact Drawn0.refl _ | apply Drawn0.step)⟩

/-! ### bits_RotateLeft64: function 54 -/
def bits_RotateLeft64.f (a0 : Int) (a1 : Int) : Option (Int) := if 0 ≤ (Go.bits .and .u64 (IntKind.u64.wrap (a1)) 63) then (if 0 ≤ (IntKind.u64.wrap (64 - (Go.bits .and .u64 (IntKind.u64.wrap (a1)) 63))) then (some (Go.bits .or .u64 (shl .u64 a0 (Go.bits .and .u64 (IntKind.u64.wrap (a1)) 63)) (shr .u64 a0 (IntKind.u64.wrap (64 - (Go.bits .and .u64 (IntKind.u64.wrap (a1)) 63)))))) else (none)) else (none)
set_option maxHeartbeats 80000000 in
set_option maxRecDepth 100000 in
theorem bits_RotateLeft64.calls (a0 : Int) (a1 : Int) (r : Int) (w : World) (h : bits_RotateLeft64.f a0 a1 = some r) :
    Calls Try.prog 54 #[.int .u64 a0, .int .i64 a1] w fun e w' => e = .returned (.int .u64 r) ∧ Drawn0 w w' := by
  have H : (if 0 ≤ (Go.bits .and .u64 (IntKind.u64.wrap (a1)) 63) then (if 0 ≤ (IntKind.u64.wrap (64 - (Go.bits .and .u64 (IntKind.u64.wrap (a1)) 63))) then (some (Go.bits .or .u64 (shl .u64 a0 (Go.bits .and .u64 (IntKind.u64.wrap (a1)) 63)) (shr .u64 a0 (IntKind.u64.wrap (64 - (Go.bits .and .u64 (IntKind.u64.wrap (a1)) 63)))))) else (none)) else (none)) = some r := h
  clear h
  obtain ⟨ji3, hji3⟩ : ∃ j_ : Int, (Go.bits .and .u64 (IntKind.u64.wrap (a1)) 63) = j_ := ⟨_, rfl⟩
  replace H : (if 0 ≤ (ji3) then (if 0 ≤ (IntKind.u64.wrap (64 - (ji3))) then (some (Go.bits .or .u64 (shl .u64 a0 (ji3)) (shr .u64 a0 (IntKind.u64.wrap (64 - (ji3)))))) else (none)) else (none)) = some r := by first | (rw [hji3] at H; exact H) | (simp only [hji3] at H ⊢; exact H)
  by_cases c4 : 0 ≤ (ji3)
  · rw [if_pos c4] at H
    have c4b0 := eq_true c4
    have c4b1 : decide (0 ≤ (ji3)) = true := decide_eq_true c4
    clear c4
    obtain ⟨ji5, hji5⟩ : ∃ j_ : Int, (shl .u64 a0 (ji3)) = j_ := ⟨_, rfl⟩
    replace H : (if 0 ≤ (IntKind.u64.wrap (64 - (ji3))) then (some (Go.bits .or .u64 (ji5) (shr .u64 a0 (IntKind.u64.wrap (64 - (ji3)))))) else (none)) = some r := by first | (rw [hji5] at H; exact H) | (simp only [hji5] at H ⊢; exact H)
    have hji5_ : (IntKind.u64.wrap (a0 * 2 ^ min (ji3).toNat 64)) = ji5 := hji5
    have hji5z : (ji3) ≤ 64 → (IntKind.u64.wrap (a0 * 2 ^ (ji3).toNat)) = ji5 := shl_small hji5
    obtain ⟨ji6, hji6⟩ : ∃ j_ : Int, (IntKind.u64.wrap (64 - (ji3))) = j_ := ⟨_, rfl⟩
    replace H : (if 0 ≤ (ji6) then (some (Go.bits .or .u64 (ji5) (shr .u64 a0 (ji6)))) else (none)) = some r := by first | (rw [hji6] at H; exact H) | (simp only [hji6] at H ⊢; exact H)
    by_cases c7 : 0 ≤ (ji6)
    · rw [if_pos c7] at H
      have c7b0 := eq_true c7
      have c7b1 : decide (0 ≤ (ji6)) = true := decide_eq_true c7
      clear c7
      obtain ⟨ji8, hji8⟩ : ∃ j_ : Int, (shr .u64 a0 (ji6)) = j_ := ⟨_, rfl⟩
      replace H : (some (Go.bits .or .u64 (ji5) (ji8))) = some r := by first | (rw [hji8] at H; exact H) | (simp only [hji8] at H ⊢; exact H)
      have hji8_ : (a0 / 2 ^ min (ji6).toNat 64) = ji8 := hji8
      have hji8z : (ji6) ≤ 64 → (a0 / 2 ^ (ji6).toNat) = ji8 := shr_small hji8
      obtain rfl := Option.some.inj H
      simp only [Option.some.injEq, Prod.mk.injEq] at H
      obtain ⟨rfl⟩ := H
      go_enter Try.func54, Try.ntmps54
      go_wp2
      go_ret
      exact ⟨by first | rfl | (simp; done) | (simp only [← hji3, ← hji5, ← hji6, ← hji8] <;> (first | rfl | simp)) | (simp [*]; done), by repeat (first | exact Drawn0.refl _ | apply Drawn0.step)⟩
    · rw [if_neg c7] at H
      exact absurd H (by simp)
  · rw [if_neg c4] at H
    exact absurd H (by simp)

-- NOT PRINTED: function 44 (bloom_places)

/-! ### bloom_Make: function 21, with bloom.places, by hand (type numbers 5, 24, 36, 56 are seat a's) -/
def plc (h d size : Int) : Nat → List Int
  | 0 => []
  | n + 1 => (h.tmod size) :: plc (IntKind.u64.wrap (h + d)) d size n
def placesF (k : Nat) (a0 : ByteArray) (size : Int) : Option (List Int) := (ckey_Hash.f k a0).bind fun h => (bits_RotateLeft64.f h (-17)).bind fun d => if 0 < size ∧ 0 ≤ h then some (plc h d size 6) else none
def cells6 (l : List Int) : Array Value := ((l.map (Value.int .u64)) ++ List.replicate (6 - l.length) (Value.int .u64 0)).toArray
theorem cells6_set (l : List Int) (x : Int) (h : l.length < 6) : cells6 (l ++ [x]) = (cells6 l).setIfInBounds l.length (Value.int .u64 x) := by
  unfold cells6
  rw [List.setIfInBounds_toArray]
  congr 1
  rw [List.set_append_right _ _ (by rw [List.length_map]; omega), List.length_map, Nat.sub_self, List.length_append, List.length_singleton, List.map_append, List.append_assoc]
  congr 1
  rw [show 6 - l.length = (6 - (l.length + 1)) + 1 by omega, List.replicate_succ]; rfl
theorem cells6_get (l : List Int) (i : Nat) (hl : l.length ≤ 6) (h : i < 6) : ∃ v, (cells6 l)[i]? = some v := by
  have : i < (cells6 l).size := by simp [cells6]; omega
  exact ⟨_, Array.getElem?_eq_getElem this⟩
theorem bloom_places.calls (k : Nat) (a0 : ByteArray) (a1 : Int) (r : List Int) (w : World) (h : placesF k a0 a1 = some r) :
    Calls Try.prog 44 #[.string a0, .int .u64 a1] w fun e w' => e = .returned (.agg (r.map (Value.int .u64)).toArray) ∧ Below w.heap.size w w' := by
  unfold placesF at h
  obtain ⟨hh, A1, h⟩ := Option.bind_eq_some_iff.mp h
  obtain ⟨dd, A2, h⟩ := Option.bind_eq_some_iff.mp h
  by_cases c : 0 < a1 ∧ 0 ≤ hh
  · rw [if_pos c] at h
    obtain rfl := Option.some.inj h
    have A1 := Aside0.mk A1
    have A2 := Aside0.mk A2
    have hne : (a1 = 0) = False := eq_false (by omega)
    have hpos : (0 < a1) = True := eq_true c.1
    clear h
    obtain ⟨x0, x1, x2, x3, x4, x5, e6⟩ : ∃ x0 x1 x2 x3 x4 x5, plc hh dd a1 6 = [x0, x1, x2, x3, x4, x5] := ⟨_, _, _, _, _, _, rfl⟩
    rw [e6]
    go_enter Try.func44, Try.ntmps44
    go_wp2_with (first | (go_at_call 53; (with_reducible refine (ckey_Hash.calls k a0 hh _ A1.out).mono ?_); rintro e w' ⟨rfl, ⟨nd, rfl⟩⟩) | (go_at_call 54; (with_reducible refine (bits_RotateLeft64.calls hh (-17) dd _ A2.out).mono ?_); rintro e w' ⟨rfl, ⟨nd2, rfl⟩⟩))
    go_loopg [6, 13] 6 (fun kx s6 s13 wr => ∃ (hx : Int) (dn : List Int), s13 = .int .i64 (dn.length : Int) ∧ s6 = .int .u64 hx ∧ dn.length + kx = 6 ∧ Aside0 (dn ++ plc hx dd a1 kx = [x0, x1, x2, x3, x4, x5]) ∧ Aside0 (wr.heap[w.heap.size + 1]? = some (.cells (cells6 dn) 56 (0, 0))) ∧ Aside0 (wr.heap[w.heap.size]? = some (.cells (cells6 []) 56 (0, 0))) ∧ Aside0 (Below w.heap.size w wr))
    case atStart =>
      refine ⟨hh, [], rfl, rfl, rfl, ⟨e6⟩, ⟨blk_drewN ?_ _⟩, ⟨blk_drewN ?_ _⟩, ⟨pw_below_drewN (below_alloc (below_alloc (Below.refl _ _) _) _) _⟩⟩
      · show ((w.heap.push _).push _)[w.heap.size + 1]? = _
        rw [show w.heap.size + 1 = (w.heap.push (Obj.cells (cells6 []) 56)).size by simp]
        exact Array.getElem?_push_size
      · exact (Below.heap_alloc (w.alloc _) _ w.heap.size (by simp)).trans Array.getElem?_push_size
    case round =>
      obtain ⟨hx, dn, rfl, rfl, hk, HE, HB5, HB4, HB⟩ := hrel
      cases gk with
      | zero =>
        have hb : ((dn.length : Int) < 6) = False := eq_false (by omega)
        have hdn : dn = [x0, x1, x2, x3, x4, x5] := by have := HE.out; simp only [plc, List.append_nil] at this; exact this
        subst hdn
        have B5 : wr.heap[w.heap.size + 1]? = some (.cells #[.int .u64 x0, .int .u64 x1, .int .u64 x2, .int .u64 x3, .int .u64 x4, .int .u64 x5] 56 (0, 0)) := HB5.out
        have B4 : wr.heap[w.heap.size]? = some (.cells #[.int .u64 0, .int .u64 0, .int .u64 0, .int .u64 0, .int .u64 0, .int .u64 0] 56 (0, 0)) := HB4.out
        have z0 : wr.cell? ⟨w.heap.size + 1, 0, none⟩ = some (.int .u64 x0) := (blk_cell B5 0).trans rfl
        have z1 : wr.cell? ⟨w.heap.size + 1, 1, none⟩ = some (.int .u64 x1) := (blk_cell B5 1).trans rfl
        have z2 : wr.cell? ⟨w.heap.size + 1, 2, none⟩ = some (.int .u64 x2) := (blk_cell B5 2).trans rfl
        have z3 : wr.cell? ⟨w.heap.size + 1, 3, none⟩ = some (.int .u64 x3) := (blk_cell B5 3).trans rfl
        have z4 : wr.cell? ⟨w.heap.size + 1, 4, none⟩ = some (.int .u64 x4) := (blk_cell B5 4).trans rfl
        have z5 : wr.cell? ⟨w.heap.size + 1, 5, none⟩ = some (.int .u64 x5) := (blk_cell B5 5).trans rfl
        have y0 := (blk_cell B4 0).trans rfl
        have f0 := blk_frozen B4 0
        have y1 := (blk_cell B4 1).trans rfl
        have f1 := blk_frozen B4 1
        have y2 := (blk_cell B4 2).trans rfl
        have f2 := blk_frozen B4 2
        have y3 := (blk_cell B4 3).trans rfl
        have f3 := blk_frozen B4 3
        have y4 := (blk_cell B4 4).trans rfl
        have f4 := blk_frozen B4 4
        have y5 := (blk_cell B4 5).trans rfl
        have f5 := blk_frozen B4 5
        go_wp2
        have hE := (blk_set (blk_set (blk_set (blk_set (blk_set (blk_set B4 0 (.int .u64 x0)) 1 (.int .u64 x1)) 2 (.int .u64 x2)) 3 (.int .u64 x3)) 4 (.int .u64 x4)) 5 (.int .u64 x5))
        refine bodyPost_ret (results_single rfl (.cell w.heap.size 56 #[.int .u64 x0, .int .u64 x1, .int .u64 x2, .int .u64 x3, .int .u64 x4, .int .u64 x5] (0, 0) _ rfl hE Try.underlying56 rfl (by kernel_rfl) .nil)) rfl ?_
        exact ⟨rfl, below_set (below_set (below_set (below_set (below_set (below_set HB.out (Nat.le_refl _)) (Nat.le_refl _)) (Nat.le_refl _)) (Nat.le_refl _)) (Nat.le_refl _)) (Nat.le_refl _)⟩
      | succ k1 =>
        have hb : ((dn.length : Int) < 6) = True := eq_true (by omega)
        have hb1 : (dn.length < 6) = True := eq_true (by omega)
        obtain ⟨v, hv⟩ := cells6_get dn dn.length (by omega) (by omega)
        have hc := (blk_cell HB5.out dn.length).trans hv
        have hf := blk_frozen HB5.out dn.length
        go_wp2
        go_roundg k1
        case measure => omega
        case rel =>
          have hB5 := blk_set HB5.out dn.length (Value.int .u64 (hx.tmod a1))
          rw [← cells6_set dn (hx.tmod a1) (by omega)] at hB5
          refine ⟨_, dn ++ [hx.tmod a1], by rw [List.length_append, List.length_singleton]; rfl, rfl, by rw [List.length_append, List.length_singleton]; omega, ⟨?_⟩, ⟨hB5⟩, ⟨?_⟩, ⟨below_set HB.out (by omega)⟩⟩
          · have := HE.out; simp only [plc] at this; rw [List.append_assoc]; exact this
          · exact (Below.heap_setCell wr _ _ _ (by show w.heap.size ≠ w.heap.size + 1; omega)).trans HB4.out
  · rw [if_neg c] at h; cases h
theorem plc_props (d size : Int) (hs : 0 < size) : ∀ n h, 0 ≤ h → (plc h d size n).length = n ∧ ∀ p ∈ plc h d size n, 0 ≤ p ∧ p < size
  | 0, _, _ => ⟨rfl, fun p hp => by cases hp⟩
  | n + 1, h, h0 => by
    have hw : 0 ≤ IntKind.u64.wrap (h + d) := by simp only [IntKind.wrap, IntKind.signed, IntKind.bits, Bool.false_and, Bool.false_eq_true, if_false]; omega
    obtain ⟨h1, h2⟩ := plc_props d size hs n _ hw
    refine ⟨by simp only [plc, List.length_cons, h1], fun p hp => ?_⟩
    rcases List.mem_cons.1 hp with rfl | hp
    · exact ⟨Int.tmod_nonneg _ h0, Int.tmod_lt_of_pos _ hs⟩
    · exact h2 p hp
theorem placesF_props {k : Nat} {x : ByteArray} {size : Int} {ps : List Int} (h : placesF k x size = some ps) : ps.length = 6 ∧ ∀ p ∈ ps, 0 ≤ p ∧ p < size := by
  unfold placesF at h
  obtain ⟨hh, _, h⟩ := Option.bind_eq_some_iff.mp h
  obtain ⟨dd, _, h⟩ := Option.bind_eq_some_iff.mp h
  by_cases c : 0 < size ∧ 0 ≤ hh
  · rw [if_pos c] at h
    obtain rfl := Option.some.inj h
    exact plc_props dd size c.1 6 hh c.2
  · rw [if_neg c] at h; cases h

def setBit (b : List Int) (p : Int) : List Int := b.set (p / 8).toNat (Go.bits .or .u8 (b.getD (p / 8).toNat 0) (2 ^ (p % 8).toNat % 256))
def makeL (k : Nat) (size : Int) : List ByteArray → List Int → Option (List Int)
  | [], b => some b
  | x :: t, b => (placesF k x (size * 8)).bind fun ps => makeL k size t (ps.foldl setBit b)
def sizeM (n : Nat) : Int := ((if 10 * (n : Int) < 64 then 64 else 10 * (n : Int)) + 8 - 1) / 8
def bloom_Make.f (k : Nat) (l0 : List ByteArray) : Option (List Int) := if l0.length < 100000 then ((makeL k (sizeM l0.length) l0 (List.replicate (sizeM l0.length + 1).toNat 0)).bind fun b => some (b.set (sizeM l0.length).toNat 6)) else none
theorem sizeM_range (n : Nat) (h : n < 100000) : 8 ≤ sizeM n ∧ sizeM n ≤ 1000000 := by unfold sizeM; split <;> omega
theorem info5_ : (Try.prog.info? 5).map (fun i => (i.zero, i.size, i.bytes)) = some (some (.int .u8 0), 1, 1) := by kernel_rfl
theorem run_index56 (W : World) (cs : Array Value) (j : Nat) (v : Value) (hj : cs[j]? = some v) (h6 : j < 6) : (Instr.index 56 (.agg cs) (.int .i64 j)).run Try.prog W = .ok v W := by
  have hn : (0 : Int) ≤ (j : Int) ∧ (j : Int) < 6 := by omega
  have hn2 : j < 6 := h6
  simp [Instr.index, run_underlying Try.underlying56, asIntOf, hn, hj, hn2, go_sem]
theorem num_cell {w : World} {base g n cap : Nat} {ok : Nat → Prop} {l : List Int} (h : Kd.R (Kd.int .u8) 5 w base ok (.slice (some ⟨g, 0, none⟩) n cap) l) (i : Nat) (hi : i < l.length) : w.cell? ⟨g, i, none⟩ = some (.int .u8 (l.getD i 0)) := by
  obtain ⟨rfl, _⟩ := Kd.R_reads' h
  have ho := Kd.own_of_R (enc := Value.int .u8) (h1 := fun _ => rfl) h
  have hc := ho.cells (g := g) rfl i (.int .u8 (l.getD i 0)) (by simp [encs, List.getElem?_eq_getElem hi, List.getD_eq_getElem?_getD])
  have e : (⟨g, 0, none⟩ : Addr).add i = ⟨g, i, none⟩ := by rw [add_plain]
  rwa [e] at hc
theorem num_frozen {w : World} {base g n cap : Nat} {ok : Nat → Prop} {l : List Int} (h : Kd.R (Kd.int .u8) 5 w base ok (.slice (some ⟨g, 0, none⟩) n cap) l) (i : Nat) : w.frozen? ⟨g, i, none⟩ = false := by
  obtain ⟨cur, hcur⟩ := own_typed (Kd.own_of_R (enc := Value.int .u8) (h1 := fun _ => rfl) h) g rfl
  exact blk_frozen hcur i
theorem makeL.mono (size : Int) : ∀ (l : List ByteArray) (b : List Int) (k : Nat), LeO (makeL k size l b) (makeL (k + 1) size l b)
  | [], b, k => LeO.refl _
  | x :: t, b, k => by
    unfold makeL
    refine LeO.bind ?_ (fun ps => makeL.mono size t _ k)
    unfold placesF
    exact LeO.bind (ckey_Hash.mono _ _) (fun _ => LeO.refl _)
theorem bloom_Make.mono : ∀ a0 k, LeO (bloom_Make.f k a0) (bloom_Make.f (k + 1) a0) := by
  intro a0 k
  unfold bloom_Make.f
  exact LeO.ite (LeO.bind (makeL.mono _ _ _ _) (fun _ => LeO.refl _)) (LeO.refl _)
theorem bloom_Make.calls (k : Nat) (A0 : Option Addr) (c0 : Nat) (l0 : List ByteArray) (r : List Int) (w : World) (hr0 : Kd.C Kd.string w A0 l0.length l0) (hc0 : l0.length ≤ c0) (h : bloom_Make.f k l0 = some r) :
    Calls Try.prog 21 #[.slice A0 l0.length c0] w fun e w' => ∃ v0_ : Value, e = .returned v0_ ∧ Kd.R (Kd.int .u8) 5 w' w.heap.size (fun _ => True) v0_ r ∧ Below w.heap.size w w' := by
  have HR0 := Aside0.mk hr0
  clear hr0
  unfold bloom_Make.f at h
  by_cases hl : l0.length < 100000
  · rw [if_pos hl] at h
    obtain ⟨r0, hM, h⟩ := Option.bind_eq_some_iff.mp h
    obtain rfl := Option.some.inj h
    clear h
    have HM := Aside0.mk hM
    clear hM
    have hS := sizeM_range l0.length hl
    have hSe : ((if 10 * (l0.length : Int) < 64 then 64 else 10 * (l0.length : Int)) + 8 - 1) / 8 = sizeM l0.length := rfl
    generalize sizeM l0.length = S at HM hS hSe ⊢
    go_enter Try.func21, Try.ntmps21
    go_upto_region 2 with (fail)
    rw [hSe]
    generalize (if 10 * (l0.length : Int) < 64 then 64 else 10 * (l0.length : Int)) = mm
    clear hSe
    go_wp2_with (first | ((with_reducible refine gate_dst (N := 18) rfl ?_); refine Kd.R_make (Kd.int .u8) _ 5 rfl (N := 18) rfl 24 _ _ rfl (S + 1) rfl rfl Try.underlying24 (.int .u8 0) 1 info5_ rfl (by decide) (by omega) 0 (ok := fun _ => True) (okp := fun _ => True) rfl (fun _ hk => hk) trivial (by omega) (by omega) (Below.refl _ _) (Nat.le_refl _) ?_; intro v1 w1 ho hb hg hat; have HO := Aside0.mk ho; have HB := Aside0.mk hb; clear ho hb hg hat))
    obtain ⟨g, cap, rfl⟩ : ∃ g cap, v1 = .slice (some ⟨g, 0, none⟩) (S + 1).toNat cap := by
      rcases (Kd.own_of_R (enc := Value.int .u8) (h1 := fun _ => rfl) HO.out).2 with ⟨_, h0⟩ | ⟨g, cap, _, e, _⟩
      · simp at h0; omega
      · exact ⟨g, cap, by rw [e, List.length_replicate]⟩
    go_loopg [21] l0.length (fun kx s21 wr => ∃ (i : Nat) (b : List Int), s21 = .int .i64 i ∧ i + kx = l0.length ∧ Aside0 (makeL k S (l0.drop i) b = some r0) ∧ Aside0 (b.length = (S + 1).toNat) ∧ Aside0 (Kd.R (Kd.int .u8) 5 wr w.heap.size (fun _ => True) (.slice (some ⟨g, 0, none⟩) (S + 1).toNat cap) b) ∧ Aside0 (Below w.heap.size w wr))
    case atStart => exact ⟨0, _, rfl, by omega, HM, ⟨List.length_replicate ..⟩, HO, HB⟩
    case round =>
      obtain ⟨i, b, rfl, hk, HE, HL, HO, HB⟩ := hrel
      cases gk with
      | zero =>
        have hlt : ((i : Int) < (l0.length : Int)) = False := eq_false (by omega)
        have hb : b = r0 := by have h_ := HE.out; rw [List.drop_eq_nil_of_le (by omega)] at h_; exact Option.some.inj h_
        subst hb
        have hS0 : ((0 : Int) ≤ S) = True := eq_true (by omega)
        have hS1 : (S < S + 1) = True := eq_true (by omega)
        have hS2 : (S.toNat < (S + 1).toNat) = True := eq_true (by omega)
        have hcp := num_cell HO.out S.toNat (by have := HL.out; omega)
        have hfp := num_frozen HO.out S.toNat
        generalize b.getD S.toNat 0 = y at hcp
        have hgb : w.heap.size ≤ g := Kd.R_base HO.out g rfl
        go_wp2
        go_ret
        exact ⟨_, rfl, Kd.R_putn HO.out S 6, below_set HB.out hgb⟩
      | succ k1 =>
        have hlt : ((i : Int) < (l0.length : Int)) = True := eq_true (by omega)
        have hlt1 : (i < l0.length) = True := eq_true (by omega)
        have h0i : ((0 : Int) ≤ (i : Int)) = True := eq_true (by omega)
        obtain ⟨ad, rfl, hc⟩ := Kd.at_string (Kd.C_below HR0.out HB.out) (i : Int) (by omega) (by omega)
        rw [rdOf, Int.toNat_natCast] at hc
        have hd : l0.drop i = l0.getD i ByteArray.empty :: l0.drop (i + 1) := by rw [List.drop_eq_getElem_cons (by omega), List.getD_eq_getElem?_getD, List.getElem?_eq_getElem (by omega)]; rfl
        have H := HE.out
        rw [hd] at H
        simp only [makeL] at H
        generalize l0.getD i ByteArray.empty = x at H hc hd
        obtain ⟨ps, HP, H⟩ := Option.bind_eq_some_iff.mp H
        have HE := Aside0.mk H
        clear H
        have HP := Aside0.mk HP
        have hw1 : IntKind.u64.wrap S = S := by simp only [IntKind.wrap, IntKind.signed, IntKind.bits, Bool.false_and, Bool.false_eq_true, if_false]; omega
        have hw2 : IntKind.u64.wrap (S * 8) = S * 8 := by simp only [IntKind.wrap, IntKind.signed, IntKind.bits, Bool.false_and, Bool.false_eq_true, if_false]; omega
        go_wp2_with (first | (go_at_call 44; (with_reducible refine (bloom_places.calls k x (S * 8) ps _ HP.out).mono ?_); rintro e w' ⟨rfl, hb⟩; have n0_ := Aside0.mk (Kd.R_below HO.out hb); have n1_ := Aside0.mk (below_step HB.out hb); clear HO HB; have HO := n0_; have HB := n1_; clear n0_ n1_ hb))
        obtain ⟨hpl, hpr⟩ := placesF_props HP.out
        obtain ⟨bF, hbF⟩ : ∃ bF, bF = ps.foldl setBit b := ⟨_, rfl⟩
        rw [← hbF] at HE
        have HF := Aside0.mk hbF.symm
        clear hbF
        go_loopg [30] 6 (fun kx s30 wr => ∃ (j : Nat) (b : List Int), s30 = .int .i64 j ∧ j + kx = 6 ∧ Aside0 ((ps.drop j).foldl setBit b = bF) ∧ Aside0 (b.length = (S + 1).toNat) ∧ Aside0 (Kd.R (Kd.int .u8) 5 wr w.heap.size (fun _ => True) (.slice (some ⟨g, 0, none⟩) (S + 1).toNat cap) b) ∧ Aside0 (Below w.heap.size w wr))
        case atStart => exact ⟨0, b, rfl, rfl, HF, HL, HO, HB⟩
        case round =>
          clear HF HL HO HB hc
          obtain ⟨j, b2, rfl, hk2, HF, HL, HO, HB⟩ := hrel
          cases gk with
          | zero =>
            have hj : ((j : Int) < 6) = False := eq_false (by omega)
            have hbF : b2 = bF := by have h_ := HF.out; rw [List.drop_eq_nil_of_le (by omega)] at h_; exact h_
            subst hbF
            go_wp2
            go_roundg k1
            case measure => omega
            case rel => exact ⟨i + 1, b2, rfl, by omega, HE, HL, HO, HB⟩
          | succ k2 =>
            have hj : ((j : Int) < 6) = True := eq_true (by omega)
            have hj1 : (j < ps.length) = True := eq_true (by omega)
            have hj0 : ((0 : Int) ≤ (j : Int)) = True := eq_true (by omega)
            have hdj : ps.drop j = ps.getD j 0 :: ps.drop (j + 1) := by rw [List.drop_eq_getElem_cons (by omega), List.getD_eq_getElem?_getD, List.getElem?_eq_getElem (by omega)]; rfl
            have hidx : (List.map (Value.int IntKind.u64) ps).toArray[j]? = some (Value.int .u64 (ps.getD j 0)) := by
              rw [List.getElem?_toArray, List.getElem?_map, List.getD_eq_getElem?_getD, List.getElem?_eq_getElem (by omega)]; rfl
            have hpj := hpr (ps.getD j 0) (by rw [List.getD_eq_getElem?_getD, List.getElem?_eq_getElem (show j < ps.length by omega)]; exact List.getElem_mem _)
            have H := HF.out
            rw [hdj, List.foldl_cons] at H
            have HF := Aside0.mk H
            clear H hdj
            generalize ps.getD j 0 = p at HF hidx hpj
            have hix : ∀ W : World, (Instr.index 56 (.agg (List.map (Value.int IntKind.u64) ps).toArray) (.int .i64 (j : Int))).run Try.prog W = .ok (.int .u64 p) W := fun W => run_index56 W _ j _ hidx (by omega)
            have hcp := num_cell HO.out (p / 8).toNat (by have := HL.out; omega)
            have hfp := num_frozen HO.out (p / 8).toNat
            generalize hy : b2.getD (p / 8).toNat 0 = y at hcp
            have hd8 : ((0 : Int) ≤ p.tmod 8) = True := eq_true (Int.tmod_nonneg _ hpj.1)
            go_wp2
            go_roundg k2
            case measure => omega
            case rel =>
              have hgb : w.heap.size ≤ g := Kd.R_base HO.out g rfl
              refine ⟨j + 1, setBit b2 p, rfl, by omega, HF, ⟨by unfold setBit; rw [List.length_set]; exact HL.out⟩, ⟨?_⟩, ⟨below_set HB.out hgb⟩⟩
              have h_ := Kd.R_putn HO.out (p / 8) (Go.bits .or .u8 y (2 ^ (p % 8).toNat % 256))
              unfold setBit
              rw [hy]
              exact h_
  · rw [if_neg hl] at h; cases h

/-! ### bloom_May: function 22, by hand -/
def bitSet (f : List Int) (p : Int) : Bool := !(Go.bits .and .u8 (f.getD (p / 8).toNat 0) (2 ^ (p % 8).toNat % 256) == 0)
def bloom_May.f (k : Nat) (l0 : List Int) (a1 : ByteArray) : Option Bool :=
  if l0.length < 1000000 then
    (if (l0.length : Int) - 1 < 1 then some true
    else if l0.getD (l0.length - 1) 0 = 6 then (placesF k a1 (((l0.length : Int) - 1) * 8)).bind fun ps => some (ps.all (bitSet l0)) else some true)
  else none
theorem bloom_May.mono : ∀ a0 a1 k, LeO (bloom_May.f k a0 a1) (bloom_May.f (k + 1) a0 a1) := by
  intro a0 a1 k
  unfold bloom_May.f placesF
  exact LeO.ite (LeO.ite (LeO.refl _) (LeO.ite (LeO.bind (LeO.bind (ckey_Hash.mono _ _) (fun _ => LeO.refl _)) (fun _ => LeO.refl _)) (LeO.refl _))) (LeO.refl _)
theorem bloom_May.calls (k : Nat) (A0 : Option Addr) (c0 : Nat) (l0 : List Int) (a1 : ByteArray) (r : Bool) (w : World) (hr0 : Kd.C (Kd.int .u8) w A0 l0.length l0) (hc0 : l0.length ≤ c0) (h : bloom_May.f k l0 a1 = some r) :
    Calls Try.prog 22 #[.slice A0 l0.length c0, .string a1] w fun e w' => e = .returned (.bool r) ∧ Below w.heap.size w w' := by
  have HR0 := Aside0.mk hr0
  clear hr0
  unfold bloom_May.f at h
  by_cases hl : l0.length < 1000000
  · rw [if_pos hl] at h
    by_cases c1 : (l0.length : Int) - 1 < 1
    · rw [if_pos c1] at h
      obtain rfl := Option.some.inj h
      have c1b := eq_true c1
      go_enter Try.func22, Try.ntmps22
      go_wp2
      go_ret
      exact ⟨rfl, Below.refl _ _⟩
    · rw [if_neg c1] at h
      have c1b := eq_false c1
      have H := Aside0.mk h
      clear h
      obtain ⟨ad, rfl, hcl⟩ : ∃ ad, A0 = some ad ∧ ∀ (W : World), Below w.heap.size w W → ∀ i, i < l0.length → W.cell? (ad.add i) = some (.int .u8 (l0.getD i 0)) := by
        obtain ⟨_, _, h3⟩ := Kd.reads_of_C (enc := Value.int .u8) (d := (0 : Int)) (h1 := fun _ => rfl) HR0.out
        obtain ⟨ad, e, h4⟩ := h3 (by omega)
        exact ⟨ad, e, fun W hW i hi => (pw_cell_below hW (h4 i hi))⟩
      have hc1 := hcl w (Below.refl _ _) (l0.length - 1) (by omega)
      have e1 : ((l0.length : Int) - 1).toNat = l0.length - 1 := by omega
      have q0 : ((0 : Int) ≤ (l0.length : Int) - 1) = True := eq_true (by omega)
      have q1 : ((l0.length : Int) - 1 < (l0.length : Int)) = True := eq_true (by omega)
      by_cases c2 : l0.getD (l0.length - 1) 0 = 6
      · have H := H.out
        rw [if_pos c2] at H
        rw [c2] at hc1
        obtain ⟨ps, HP, H⟩ := Option.bind_eq_some_iff.mp H
        have hr := Option.some.inj H
        clear H
        have HP := Aside0.mk HP
        obtain ⟨hpl, hpr⟩ := placesF_props HP.out
        have HRr := Aside0.mk hr
        clear hr
        have hw1 : IntKind.u64.wrap ((l0.length : Int) - 1) = (l0.length : Int) - 1 := by simp only [IntKind.wrap, IntKind.signed, IntKind.bits, Bool.false_and, Bool.false_eq_true, if_false]; omega
        have hw2 : IntKind.u64.wrap (((l0.length : Int) - 1) * 8) = ((l0.length : Int) - 1) * 8 := by simp only [IntKind.wrap, IntKind.signed, IntKind.bits, Bool.false_and, Bool.false_eq_true, if_false]; omega
        go_enter Try.func22, Try.ntmps22
        go_wp2_with (first | (go_at_call 44; (with_reducible refine (bloom_places.calls k a1 (((l0.length : Int) - 1) * 8) ps _ HP.out).mono ?_); rintro e w' ⟨rfl, hb⟩; have HB := Aside0.mk hb; clear hb))
        go_loopg [25] 6 (fun kx s25 wr => ∃ (j : Nat), s25 = .int .i64 j ∧ j + kx = 6 ∧ Aside0 ((ps.drop j).all (bitSet l0) = r) ∧ Aside0 (Below w.heap.size w wr))
        case atStart => exact ⟨0, rfl, rfl, HRr, HB⟩
        case round =>
          clear HB HRr
          obtain ⟨j, rfl, hk2, HF, HB⟩ := hrel
          cases gk with
          | zero =>
            have hj : ((j : Int) < 6) = False := eq_false (by omega)
            have hrt : true = r := by have h_ := HF.out; rw [List.drop_eq_nil_of_le (by omega)] at h_; exact h_
            subst hrt
            go_wp2
            go_ret
            exact ⟨rfl, HB.out⟩
          | succ k2 =>
            have hj : ((j : Int) < 6) = True := eq_true (by omega)
            have hj1 : (j < ps.length) = True := eq_true (by omega)
            have hj0 : ((0 : Int) ≤ (j : Int)) = True := eq_true (by omega)
            have hdj : ps.drop j = ps.getD j 0 :: ps.drop (j + 1) := by rw [List.drop_eq_getElem_cons (by omega), List.getD_eq_getElem?_getD, List.getElem?_eq_getElem (by omega)]; rfl
            have hidx : (List.map (Value.int IntKind.u64) ps).toArray[j]? = some (Value.int .u64 (ps.getD j 0)) := by
              rw [List.getElem?_toArray, List.getElem?_map, List.getD_eq_getElem?_getD, List.getElem?_eq_getElem (by omega)]; rfl
            have hpj := hpr (ps.getD j 0) (by rw [List.getD_eq_getElem?_getD, List.getElem?_eq_getElem (show j < ps.length by omega)]; exact List.getElem_mem _)
            have H := HF.out
            rw [hdj, List.all_cons] at H
            clear hdj HF
            generalize ps.getD j 0 = p at H hidx hpj
            have hix : ∀ W : World, (Instr.index 56 (.agg (List.map (Value.int IntKind.u64) ps).toArray) (.int .i64 (j : Int))).run Try.prog W = .ok (.int .u64 p) W := fun W => run_index56 W _ j _ hidx (by omega)
            have hcp := hcl wr HB.out (p / 8).toNat (by omega)
            rw [show bitSet l0 p = !(Go.bits .and .u8 (l0.getD (p / 8).toNat 0) (2 ^ (p % 8).toNat % 256) == 0) from rfl] at H
            generalize l0.getD (p / 8).toNat 0 = y at H hcp
            have hp8 : (p / 8 < (l0.length : Int)) = True := eq_true (by omega)
            cases hz : (Go.bits .and .u8 y (2 ^ (p % 8).toNat % 256) == 0) with
            | true =>
              rw [hz] at H
              have hrt : false = r := by simpa using H
              subst hrt
              go_wp2
              go_ret
              exact ⟨rfl, HB.out⟩
            | false =>
              rw [hz] at H
              have HF := Aside0.mk (show (ps.drop (j + 1)).all (bitSet l0) = r from by simpa using H)
              clear H
              go_wp2
              go_roundg k2
              case measure => omega
              case rel => exact ⟨j + 1, rfl, by omega, HF, HB⟩
      · have H := H.out
        rw [if_neg c2] at H
        obtain rfl := Option.some.inj H
        generalize l0.getD (l0.length - 1) 0 = y at hc1 c2
        have c2b : (y != 6) = true := bne_iff_ne.mpr c2
        go_enter Try.func22, Try.ntmps22
        go_wp2
        go_ret
        exact ⟨rfl, Below.refl _ _⟩
  · rw [if_neg hl] at h; cases h

/-! ### incipitlaw15_begun: function 20 -/
def incipitlaw15_begun.f (k : Nat)  : Option (Bool) := (bloom_Make.f k (([(⟨#[97, 98, 99]⟩ : ByteArray)] : List ByteArray))).bind fun t104 => (if (t104.length : Int) = 9 then (if 8 < (t104.length : Int) then (if (rd t104 8) = 6 then ((bloom_May.f k t104 (⟨#[97, 98, 99]⟩ : ByteArray)).bind fun t108 => (if t108 = true then ((bloom_May.f k ([] : List Int) (⟨#[120]⟩ : ByteArray)).bind fun t109 => (some t109)) else (some false))) else (some false)) else (none)) else (some false))
theorem incipitlaw15_begun.mono : ∀ k, LeO (incipitlaw15_begun.f k ) (incipitlaw15_begun.f (k + 1) ) := by
  intro  k
  unfold incipitlaw15_begun.f
  repeat' first
      | (with_reducible exact bloom_Make.mono _ _)
      | (with_reducible exact bloom_May.mono _ _ _)
      | (with_reducible exact LeO.refl _)
      | (with_reducible exact LeO.none _)
      | (with_reducible refine LeO.ite ?_ ?_)
      | (with_reducible refine LeO.bind ?_ (fun _ => ?_))
      | exact bloom_Make.mono _ _
      | exact bloom_May.mono _ _ _
      | exact LeO.none _
      | refine LeO.ite ?_ ?_
      | refine LeO.bind ?_ (fun _ => ?_)
set_option maxHeartbeats 80000000 in
set_option maxRecDepth 100000 in
theorem incipitlaw15_begun.calls (k : Nat)  (r : Bool) (w : World) (hrt : r = true) (h : incipitlaw15_begun.f k  = some r) :
    Calls Try.prog 20 #[] w fun e w' => e = .returned (.bool r) ∧ Below w.heap.size w w' := by
  have HRT := Aside0.mk hrt
  clear hrt
  have HB := Aside0.mk (Below.refl w.heap.size w)
  have H : ((bloom_Make.f k (([(⟨#[97, 98, 99]⟩ : ByteArray)] : List ByteArray))).bind fun t104 => (if (t104.length : Int) = 9 then (if 8 < (t104.length : Int) then (if (rd t104 8) = 6 then ((bloom_May.f k t104 (⟨#[97, 98, 99]⟩ : ByteArray)).bind fun t108 => (if t108 = true then ((bloom_May.f k ([] : List Int) (⟨#[120]⟩ : ByteArray)).bind fun t109 => (some t109)) else (some false))) else (some false)) else (none)) else (some false))) = some r := h
  clear h
  obtain ⟨y101, hy101⟩ : ∃ y_ : List ByteArray, y_ = (([(⟨#[97, 98, 99]⟩ : ByteArray)] : List ByteArray)) := ⟨_, rfl⟩
  replace H : ((bloom_Make.f k y101).bind fun t104 => (if (t104.length : Int) = 9 then (if 8 < (t104.length : Int) then (if (rd t104 8) = 6 then ((bloom_May.f k t104 (⟨#[97, 98, 99]⟩ : ByteArray)).bind fun t108 => (if t108 = true then ((bloom_May.f k ([] : List Int) (⟨#[120]⟩ : ByteArray)).bind fun t109 => (some t109)) else (some false))) else (some false)) else (none)) else (some false))) = some r := by first | (rw [hy101]; with_reducible exact H) | (have H2_ := (Option.bind_some _ _).symm.trans H; rw [hy101]; with_reducible exact H2_) | (have H2_ := (Option.bind_some _ _).symm.trans H; with_reducible exact H2_) | with_reducible exact H | (rw [hy101]; exact H) | exact H
  have Ny101 := Aside0.mk hy101
  clear hy101
  replace H := Option.bind_eq_some_iff.mp H
  obtain ⟨t104, A10, H⟩ := H
  replace H : (if (t104.length : Int) = 9 then (if 8 < (t104.length : Int) then (if (rd t104 8) = 6 then ((bloom_May.f k t104 (⟨#[97, 98, 99]⟩ : ByteArray)).bind fun t108 => (if t108 = true then ((bloom_May.f k ([] : List Int) (⟨#[120]⟩ : ByteArray)).bind fun t109 => (some t109)) else (some false))) else (some false)) else (none)) else (some false)) = some r := H
  have A1 := Aside0.mk A10
  clear A10
  by_cases c2 : (t104.length : Int) = 9
  · rw [if_pos c2] at H
    have c2b0 : ((t104.length : Int) == 9) = true := beq_iff_eq.mpr c2
    have c2b1 : ((t104.length : Int) != 9) = false := bne_eq_false_iff_eq.mpr c2
    clear c2
    by_cases c3 : 8 < (t104.length : Int)
    · rw [if_pos c3] at H
      have c3b0 : decide (8 < (t104.length : Int)) = true := decide_eq_true c3
      have c3b1 : decide (8 < t104.length) = true := decide_eq_true (by omega)
      clear c3
      by_cases c4 : (rd t104 8) = 6
      · rw [if_pos c4] at H
        have c4b0 : ((rd t104 8) == 6) = true := beq_iff_eq.mpr c4
        have c4b1 : ((rd t104 8) != 6) = false := bne_eq_false_iff_eq.mpr c4
        clear c4
        replace H := Option.bind_eq_some_iff.mp H
        obtain ⟨t108, A50, H⟩ := H
        replace H : (if t108 = true then ((bloom_May.f k ([] : List Int) (⟨#[120]⟩ : ByteArray)).bind fun t109 => (some t109)) else (some false)) = some r := H
        have A5 := Aside0.mk A50
        clear A50
        by_cases c6 : t108 = true
        · subst c6
          have H1 : ((bloom_May.f k ([] : List Int) (⟨#[120]⟩ : ByteArray)).bind fun t109 => (some t109)) = some r := by rw [if_pos rfl] at H; exact H
          clear H
          have H := H1
          clear H1
          replace H := Option.bind_eq_some_iff.mp H
          obtain ⟨t109, A70, H⟩ := H
          replace H : (some t109) = some r := H
          have A7 := Aside0.mk A70
          clear A70
          obtain rfl := Option.some.inj H
          simp only [Option.some.injEq, Prod.mk.injEq] at H
          obtain ⟨rfl⟩ := H
          go_enter Try.func20, Try.ntmps20
          go_wp2_with (first | ((with_reducible refine gate_dst (N := 2) rfl ?_); refine Kd.R_lit Kd.string _ 9 ?hg (N := 2) ?hd (xs := ([(⟨#[97, 98, 99]⟩ : ByteArray)] : List ByteArray)) (inner := [.string (⟨#[97, 98, 99]⟩ : ByteArray)]) (ok := fun _ => True) (okp := fun _ => True) ?hr ?hp (fun _ hk => hk) trivial (Below.refl _ _) (Nat.le_refl _) (by simp) ?_; (case hd => rfl); (case hg => rfl); (case hr => first | (go_simp; done) | (go_simp; rfl)); (case hp => exact (Reps.one (show Kd.M Kd.string _ _ _ (⟨#[97, 98, 99]⟩ : ByteArray) [.string (⟨#[97, 98, 99]⟩ : ByteArray)] from rfl) (Reps.none _ _))); intro v102 w8 ho9 hb hg_ hnew_; clear hg_ hnew_; (first | rw [← Ny101.out] at ho9 | (simp only [Int.reduceToNat] at ho9; rw [← Ny101.out] at ho9)); have n0_ := Aside0.mk (Kd.R_lower ho9 (below_size (by repeat (first | (with_reducible first | exact HB.out | apply below_alloc | apply pw_below_drewN | apply below_drew1) | exact HB.out)))); have n1_ := Aside0.mk (below_step (by repeat (first | (with_reducible first | exact HB.out | apply below_alloc | apply pw_below_drewN | apply below_drew1) | exact HB.out)) hb); clear HB; have HO103 := n0_; have HB := n1_; clear n0_ n1_; clear hb ho9; obtain ⟨Ao10, co10, eo10⟩ := Kd.R_slice HO103.out; subst eo10) | ((with_reducible refine gate_callee (f := 21) rfl ?_); refine goesL_ (some 3) rfl rfl Try.func21 (by kernel_rfl) rfl #[.slice Ao10 y101.length co10] rfl (by (try simp only [List.map_toArray, List.map_cons, List.map_nil]); first | done | rfl | (simp only [List.length_drop, List.length_take]; rfl)) ?_; (with_reducible refine (bloom_Make.calls k _ _ y101 t104 _ ?side1 ?side2 A1.out).mono ?_); (case side1 => repeat (first | exact (Kd.R_reads' HO103.out).2.2 | (with_reducible refine Kd.C_alloc ?_ _) | (with_reducible refine Kd.C_drewN ?_ _) | (with_reducible refine Kd.C_drew ?_))); (case side2 => exact (Kd.R_reads' HO103.out).2.1); rintro e w11 ⟨v105, rfl, ho0, hb⟩; refine ⟨_, rfl, ?_⟩; have n0_ := Aside0.mk (Kd.R_below (by (with_reducible repeat (first | apply Kd.R_alloc | apply Kd.R_drewN | apply Kd.R_drew)); exact HO103.out) hb); have n1_ := Aside0.mk (Kd.R_lower ho0 (below_size (by repeat (first | (with_reducible first | exact HB.out | apply below_alloc | apply pw_below_drewN | apply below_drew1) | exact HB.out)))); have n2_ := Aside0.mk (below_step (by repeat (first | (with_reducible first | exact HB.out | apply below_alloc | apply pw_below_drewN | apply below_drew1) | exact HB.out)) hb); clear HO103; clear HB; have HO103 := n0_; have HO106 := n1_; have HB := n2_; clear n0_ n1_ n2_; (try clear hb); (try clear hb2); (try clear hk); (try clear hi); (try clear ho0); obtain ⟨Ao12, co12, eo12⟩ := Kd.R_slice HO106.out; subst eo12; have p107 : 0 ≤ (8 : Int) := (by omega); have q107 : 8 < (t104.length : Int) := of_decide_eq_true (by first | (with_reducible assumption) | assumption); obtain ⟨ad107, e107, hx107_0⟩ := Kd.at_int (Kd.R_reads' HO106.out).2.2 8 p107 q107; cases e107; (try simp only [show (8 : Int).toNat = 8 from rfl, Nat.reduceMul, Nat.reduceEqDiff, Go.Addr.add, ↓reduceIte] at hx107_0); have qi107 : (8 < t104.length) = True := eq_true (by omega); (try rw [show ((8 : Int)).toNat = 8 from rfl] at hx107_0); replace p107 := eq_true p107; replace q107 := eq_true q107) | (go_at_call 22; (with_reducible refine (bloom_May.calls k _ _ t104 (⟨#[97, 98, 99]⟩ : ByteArray) true _ ?side1 ?side2 A5.out).mono ?_); (case side1 => repeat (first | exact (Kd.R_reads' HO106.out).2.2 | (with_reducible refine Kd.C_alloc ?_ _) | (with_reducible refine Kd.C_drewN ?_ _) | (with_reducible refine Kd.C_drew ?_))); (case side2 => exact (Kd.R_reads' HO106.out).2.1); rintro e w13 ⟨rfl, hb⟩; have n0_ := Aside0.mk (Kd.R_below (by (with_reducible repeat (first | apply Kd.R_alloc | apply Kd.R_drewN | apply Kd.R_drew)); exact HO103.out) hb); have n1_ := Aside0.mk (Kd.R_below (by (with_reducible repeat (first | apply Kd.R_alloc | apply Kd.R_drewN | apply Kd.R_drew)); exact HO106.out) hb); have n2_ := Aside0.mk (below_step (by repeat (first | (with_reducible first | exact HB.out | apply below_alloc | apply pw_below_drewN | apply below_drew1) | exact HB.out)) hb); clear HO103; clear HO106; clear HB; have HO103 := n0_; have HO106 := n1_; have HB := n2_; clear n0_ n1_ n2_; (try clear hb); (try clear hb2); (try clear hk); (try clear hi)) | (go_at_call 22; (refine (bloom_May.calls k _ _ ([] : List Int) (⟨#[120]⟩ : ByteArray) t109 _ ?side1 ?side2 A7.out).mono ?_); (case side1 => exact Kd.C_nil _ _); (case side2 => exact Nat.le_refl _); rintro e w14 ⟨rfl, hb⟩; have n0_ := Aside0.mk (Kd.R_below (by (with_reducible repeat (first | apply Kd.R_alloc | apply Kd.R_drewN | apply Kd.R_drew)); exact HO103.out) hb); have n1_ := Aside0.mk (Kd.R_below (by (with_reducible repeat (first | apply Kd.R_alloc | apply Kd.R_drewN | apply Kd.R_drew)); exact HO106.out) hb); have n2_ := Aside0.mk (below_step (by repeat (first | (with_reducible first | exact HB.out | apply below_alloc | apply pw_below_drewN | apply below_drew1) | exact HB.out)) hb); clear HO103; clear HO106; clear HB; have HO103 := n0_; have HO106 := n1_; have HB := n2_; clear n0_ n1_ n2_; (try clear hb); (try clear hb2); (try clear hk); (try clear hi)))
          go_ret
          exact ⟨by first | rfl | (simp [errW_none, errW_some] <;> rfl) | (simp [*, errW_none, errW_some] <;> rfl), by repeat (first | (with_reducible first | exact HB.out | apply below_alloc | apply pw_below_drewN | apply below_drew1) | exact HB.out)⟩
        · replace c6 := Bool.eq_false_iff.mpr c6
          subst c6
          have H1 : (some false) = some r := by rw [if_neg (show ¬ (false = true) by decide)] at H; exact H
          clear H
          have H := H1
          clear H1
          obtain rfl := Option.some.inj H
          exact absurd HRT.out (by decide)
      · rw [if_neg c4] at H
        have c4b0 : ((rd t104 8) == 6) = false := beq_eq_false_iff_ne.mpr c4
        have c4b1 : ((rd t104 8) != 6) = true := bne_iff_ne.mpr c4
        obtain rfl := Option.some.inj H
        exact absurd HRT.out (by decide)
    · rw [if_neg c3] at H
      exact absurd H (by simp)
  · rw [if_neg c2] at H
    have c2b0 : ((t104.length : Int) == 9) = false := beq_eq_false_iff_ne.mpr c2
    have c2b1 : ((t104.length : Int) != 9) = true := bne_iff_ne.mpr c2
    obtain rfl := Option.some.inj H
    exact absurd HRT.out (by decide)

end Go.Proofs.Ythpeieieibbbgaa.MFlt
