import Derived.Test.YtoglanahjlfihaaHBlk13
import Derived.Test.YtoglanahjlfihaaHBlk15
namespace Go.Proofs.Ytoglanahjlfihaa.MBlk
open Go.RowKit Go.Proofs.Ytoglanahjlfihaa.QBlk Go.Proofs.YtoglanahjlfihaaW.PrintWords Go.Proofs.YtoglanahjlfihaaW.PrintLast Go.Proofs.YtoglanahjlfihaaW.PrintMore
set_option linter.unusedVariables false
set_option linter.unusedSimpArgs false
attribute [local go_sem] max2_int min2_int max_two min_two max_three min_three max_four min_four
def kx : ByteArray := ⟨#[107, 101, 121]⟩
def vx : ByteArray := ⟨#[118]⟩
theorem two_conv (W : World) (i : Nat) (g : Nat) (hg : g = W.heap.size) : (convert 28 9 (.slice (some ⟨g, 0, none⟩) 2 2)).run Try.prog (W.alloc (Obj.cells #[Value.int IntKind.u8 (97 + (i : Int) / 26), Value.int IntKind.u8 (97 + (i : Int) % 26)] 5)) = .ok (.string (two i)) (W.alloc (Obj.cells #[Value.int IntKind.u8 (97 + (i : Int) / 26), Value.int IntKind.u8 (97 + (i : Int) % 26)] 5)) := by
  subst hg
  refine run_convert_bytes_arg _ 28 5 Try.underlying28 Try.underlying5 W.heap.size 0 2 2 [97 + (i : Int) / 26, 97 + (i : Int) % 26] rfl (fun j hj => ?_) 9 Try.underlying9
  have h0 : j = 0 ∨ j = 1 := by have hj : j < 2 := hj; omega
  rcases h0 with rfl | rfl <;> (rw [World.cell?_alloc_at _ _ _ _ (by simp)]; rfl)
set_option maxHeartbeats 8000000 in
set_option maxRecDepth 100000 in
theorem incipitlaw16_BlockSeek.calls (n0 : Int) (w : World) : Calls Try.prog 12 #[.int .i64 n0] w fun e w' => e = .returned (.bool true) ∧ Below w.heap.size w w' := by
  by_cases hn : n0 < 0 ∨ n0 > 100
  · go_enter Try.func12, Try.ntmps12
    go_wp2_with (fail)
    refine (incipitlaw16_begun.calls w).mono ?_
    rintro e w1 ⟨rfl, hb⟩
    by_cases h0 : n0 < 0
    · have h0b : (n0 < 0) = True := eq_true h0
      go_wp2_with (fail)
      go_ret
      exact ⟨rfl, hb⟩
    · have h0b : (n0 < 0) = False := eq_false h0
      have h1b : (100 < n0) = True := eq_true (by omega)
      go_wp2_with (fail)
      go_ret
      exact ⟨rfl, hb⟩
  · obtain ⟨n, rfl⟩ := Int.eq_ofNat_of_zero_le (a := n0) (by omega)
    have hn1 : n ≤ 100 := by omega
    have h0b : ((n : Int) < 0) = False := eq_false (by omega)
    have h1b : (100 < (n : Int)) = False := eq_false (by omega)
    have h1c : (100 < n) = False := eq_false (by omega)
    clear hn
    go_enter Try.func12, Try.ntmps12
    go_wp2_with (fail)
    refine (incipitlaw16_begun.calls w).mono ?_
    rintro e w1 ⟨rfl, hb⟩
    have HB1 := Aside0.mk hb
    clear hb
    go_wp2_with (fail)
    refine (block_NewS.calls w w1 HB1.out).mono ?_
    rintro e w2 ⟨g, rfl, hI, hb, _⟩
    have HI : Aside0 (BldS w w2 g St0) := ⟨hI⟩
    clear hI hb HB1
    go_wp2_with (fail)
    clear h0b h1b h1c
    go_loopg [5] n (fun kq s5 wr => ∃ (i : Nat) (s : St), s5 = .int .i64 i ∧ i + kq = n ∧ Aside0 (Laid 10 (rowsP kx vx i) s) ∧ Aside0 (BldS w wr g s))
    case atStart => exact ⟨0, St0, rfl, by omega, ⟨Laid.nil 10⟩, HI⟩
    case round =>
      clear HI
      obtain ⟨i, s, rfl, hi, HL, HI⟩ := hrel
      cases gk with
      | zero =>
        have hit : ((i : Int) < (n : Int)) = False := eq_false (by omega)
        have hit2 : (i < n) = False := eq_false (by omega)
        go_wp2_with (fail)
        obtain rfl : i = n := by omega
        have hbl := HL.out.bl
        have hpl := HL.out.pl
        rw [rowsP_length] at hbl hpl
        refine (block_BytesS.calls w wr g s HI.out (by omega) (by omega)).mono ?_
        rintro e w5 ⟨v, rfl, hv, hI, hb⟩
        have hol := HL.out.out_len
        have hred := HL.out.read (by rw [rowsP_length]; omega)
        obtain ⟨A5, c5, e5⟩ := Kd.R_slice hv
        subst e5
        have HV := Aside0.mk hv
        have HB := Aside0.mk (BldS.base hI)
        have HY := Aside0.mk HL.out.out_bytes
        have HR := Aside0.mk hred
        have hol3 : s.out.length ≤ 30000 := by omega
        clear hv hI hb HI HL hbl hpl hol hred hit hit2
        generalize s.out = x at *
        go_wp2_with (fail)
        go_loopg [7] (i + 1) (fun kq s7 wq => ∃ j : Nat, s7 = .int .i64 j ∧ j + kq = i + 1 ∧ Aside0 (Below w5.heap.size w5 wq))
        case atStart => exact ⟨0, rfl, by omega, ⟨Below.refl _ _⟩⟩
        case round =>
          obtain ⟨j, rfl, hj, HW⟩ := hrel
          cases gk with
          | zero =>
            have hjt : ((j : Int) ≤ (i : Int)) = False := eq_false (by omega)
            have hjt2 : (j ≤ i) = False := eq_false (by omega)
            go_wp2_with (fail)
            refine (block_Seek.calls A5 c5 x ⟨#[]⟩ wr (Kd.C_below (Kd.R_reads' HV.out).2.2 HW.out) (Kd.R_reads' HV.out).2.1 HY.out hol3 _ HR.out).mono ?_
            rintro e w6 ⟨rfl, hb6⟩
            have hsk : seekR (some (rowsP kx vx i)) ⟨#[]⟩ = 0 := by
              show ((seekI (rowsP kx vx i) ⟨#[]⟩ : Nat) : Int) = 0
              rw [seekI_rows kx vx ⟨#[]⟩ 0 i (fun q hq => by rw [show (⟨#[]⟩ : ByteArray).toList = [] by rw [Lib.toList_data]]; cases (keyP kx q).toList <;> rfl)]
              simp
            rw [hsk, show seekE (some (rowsP kx vx i)) = 0 from rfl]
            have HB6 := Aside0.mk (below_step (below_step HB.out HW.out) hb6)
            clear hb6 hsk
            go_wp2_with (fail)
            go_ret
            exact ⟨rfl, HB6.out⟩
          | succ k2 =>
            have hjt : ((j : Int) ≤ (i : Int)) = True := eq_true (by omega)
            have hji0 : j ≤ i := by omega
            have hjt2 : (j ≤ i) = True := eq_true hji0
            have hw64 : IntKind.i64.wrap ((j : Int) + 1) = ((j + 1 : Nat) : Int) := i64id (by omega)
            have hq2 : ∀ q, q < i → q < 200 ∧ j < 200 := fun q hq => by omega
            have hq3 : ∀ q : Nat, (q < j ∨ q = j) ↔ q < j + 1 := fun q => by omega
            have hq2 := Aside0.mk hq2
            have hq3 := Aside0.mk hq3
            have hcv := two_conv wr j _ rfl
            have hsz : (two j).size = 2 := rfl
            go_wp2_with (fail)
            have hsk1 : seekR (some (rowsP kx vx i)) (keyP kx j) = ((min i j : Nat) : Int) := by
              show ((seekI (rowsP kx vx i) (keyP kx j) : Nat) : Int) = _
              rw [seekI_rows kx vx (keyP kx j) j i (fun q hq => bl_keyP0 kx q j (hq2.out q hq).1 (hq2.out q hq).2)]
            have hsk2 : seekR (some (rowsP kx vx i)) (keyP kx j ++ ⟨#[120]⟩) = ((min i (j + 1) : Nat) : Int) := by
              show ((seekI (rowsP kx vx i) (keyP kx j ++ ⟨#[120]⟩) : Nat) : Int) = _
              rw [seekI_rows kx vx (keyP kx j ++ ⟨#[120]⟩) (j + 1) i (fun q hq => by
                rw [bl_keyP kx q j (hq2.out q hq).1 (hq2.out q hq).2, show (⟨#[120]⟩ : ByteArray).toList = [120] by rw [Lib.toList_data]]
                rw [decide_eq_decide]
                simp only [ne_eq, reduceCtorEq, not_false_eq_true, and_true]
                exact hq3.out q)]
            have HW1 := Aside0.mk (below_step HW.out (below_alloc (Below.refl _ _) (Obj.cells #[Value.int IntKind.u8 (97 + (j : Int) / 26), Value.int IntKind.u8 (97 + (j : Int) % 26)] 5)))
            have H1 := Aside0.mk hsk1
            have H2 := Aside0.mk hsk2
            clear hsk1 hsk2
            refine (block_Seek.calls A5 c5 x (keyP kx j) _ (Kd.C_below (Kd.R_reads' HV.out).2.2 HW1.out) (Kd.R_reads' HV.out).2.1 HY.out hol3 _ HR.out).mono ?_
            rintro e w6 ⟨rfl, hb6⟩
            rw [H1.out, Nat.min_eq_right hji0, show seekE (some (rowsP kx vx i)) = 0 from rfl]
            have HW6 := Aside0.mk (below_step HW1.out hb6)
            clear hb6 HW1 HW hcv
            have hcv := two_conv w6 j _ rfl
            go_wp2_with (fail)
            have HW7 := Aside0.mk (below_step HW6.out (below_alloc (Below.refl _ _) (Obj.cells #[Value.int IntKind.u8 (97 + (j : Int) / 26), Value.int IntKind.u8 (97 + (j : Int) % 26)] 5)))
            have hk2 : (({ data := #[107, 101, 121] } : ByteArray) ++ two j ++ { data := #[120] }) = keyP kx j ++ ⟨#[120]⟩ := by unfold keyP kx; rfl
            obtain ⟨q2, hq2e⟩ : ∃ q2 : ByteArray, Aside0 (keyP kx j ++ ⟨#[120]⟩ = q2) := ⟨_, ⟨rfl⟩⟩
            rw [hk2, hq2e.out]
            rw [hq2e.out] at H2
            clear hk2 hq2e
            refine (block_Seek.calls A5 c5 x q2 _ (Kd.C_below (Kd.R_reads' HV.out).2.2 HW7.out) (Kd.R_reads' HV.out).2.1 HY.out hol3 _ HR.out).mono ?_
            rintro e w7 ⟨rfl, hb7⟩
            rw [H2.out, show seekE (some (rowsP kx vx i)) = 0 from rfl]
            have HW8 := Aside0.mk (below_step HW7.out hb7)
            clear hb7 HW6 HW7 hcv H1 H2
            by_cases hji : j = i
            · subst hji
              rw [Nat.min_eq_left (Nat.le_succ j)]
              go_wp2_with (fail)
              clear hsz
              go_roundg k2
              case measure => omega
              case rel => exact ⟨j + 1, rfl, by omega, HW8⟩
            · have hlt : j < i := Nat.lt_of_le_of_ne hji0 hji
              rw [Nat.min_eq_right (show j + 1 ≤ i from hlt)]
              go_wp2_with (fail)
              clear hsz
              go_roundg k2
              case measure => omega
              case rel => exact ⟨j + 1, rfl, by omega, HW8⟩
      | succ kk =>
        have hit : ((i : Int) < (n : Int)) = True := eq_true (by omega)
        have hit2 : (i < n) = True := eq_true (by omega)
        have hcv := two_conv wr i _ rfl
        have hsz : (two i).size = 2 := rfl
        have hw64 : IntKind.i64.wrap ((i : Int) + 1) = ((i + 1 : Nat) : Int) := i64id (by omega)
        go_wp2_with (fail)
        have hbl := HL.out.bl
        have hpl := HL.out.pl
        have hrw := HL.out.rows
        have hla := HL.out.last
        rw [rowsP_length] at hbl hpl hrw
        have hks : (keyP kx i).size = 5 := rfl
        have hvs : vx.size = 1 := rfl
        have hab := addB_P HL.out (show i < 199 by omega)
        refine (block_Add.calls w _ g s (keyP kx i) vx (HI.out.below (below_alloc (Below.refl _ _) _)) (by omega) (by omega) (by omega) (by omega) (by omega) (by omega)).mono ?_
        rintro e w4 ⟨rfl, hI, _⟩
        rw [hab, if_pos rfl] at hI
        rw [hab]
        have HI2 := Aside0.mk hI
        have HL2 : Aside0 (Laid 10 (rowsP kx vx (i + 1)) (addT s (keyP kx i) vx)) := ⟨by rw [rowsP_succ]; exact HL.out.step hab (by omega) (by omega) (by omega)⟩
        clear hI HI HL hcv hbl hpl hrw hla hab
        go_wp2_with (fail)
        go_roundg kk
        case measure => omega
        case rel => exact ⟨i + 1, _, rfl, by omega, HL2, HI2⟩
end Go.Proofs.Ytoglanahjlfihaa.MBlk
