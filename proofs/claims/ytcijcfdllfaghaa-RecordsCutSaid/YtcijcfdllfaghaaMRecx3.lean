-- Written by a program of this session for this claim (out of the translation's print); Lean checks it.
import Derived.Test.YtcijcfdllfaghaaMRecx0
import Derived.Test.YtcijcfdllfaghaaMRecx1
import Derived.Test.YtcijcfdllfaghaaMRecx2
namespace Go.Proofs.Ytcijcfdllfaghaa.MRec
open Go.RowKit Go.Proofs.YtcijcfdllfaghaaW.PrintWords Go.Proofs.YtcijcfdllfaghaaW.PrintLast Go.Proofs.YtcijcfdllfaghaaW.PrintMore
attribute [local go_sem] max2_int min2_int max_two min_two max_three min_three max_four min_four   -- for this text's walks alone
set_option linter.unusedVariables false
set_option linter.unusedSimpArgs false

/-! ### reclog_piece: function 72 -/
def reclog_piece.f (k : Nat) (l0 : List Int) (a1 : Int) : Option (Int × List Int × Int) := if (wrap64 ((l0.length : Int) - a1)) < 7 then (some (0, ([] : List Int), 1)) else (if 0 ≤ (wrap64 (a1 + 4)) then (if (wrap64 (a1 + 4)) < (l0.length : Int) then (if 0 ≤ (wrap64 ((wrap64 (a1 + 4)) + 1)) then (if (wrap64 ((wrap64 (a1 + 4)) + 1)) < (l0.length : Int) then (if (wrap64 ((wrap64 ((Int.tmod a1 256) + 7)) + (Go.bits .or .i64 (wrap64 (rd l0 (wrap64 (a1 + 4)))) (wrap64 ((wrap64 (rd l0 (wrap64 ((wrap64 (a1 + 4)) + 1)))) * 256))))) > 256 then (some (0, ([] : List Int), 2)) else (if (wrap64 ((wrap64 (a1 + 7)) + (Go.bits .or .i64 (wrap64 (rd l0 (wrap64 (a1 + 4)))) (wrap64 ((wrap64 (rd l0 (wrap64 ((wrap64 (a1 + 4)) + 1)))) * 256))))) > (l0.length : Int) then (some (0, ([] : List Int), 1)) else (if 0 ≤ (wrap64 ((wrap64 (a1 + 7)) - 1)) then (if (wrap64 ((wrap64 (a1 + 7)) - 1)) < (l0.length : Int) then (if (rd l0 (wrap64 ((wrap64 (a1 + 7)) - 1))) < 1 then (some (0, ([] : List Int), 2)) else (if (rd l0 (wrap64 ((wrap64 (a1 + 7)) - 1))) > 4 then (some (0, ([] : List Int), 2)) else (if 0 ≤ a1 then (if a1 ≤ (l0.length : Int) then ((varint_Get32.f k (l0.drop (a1 : Int).toNat)).bind fun t154 => (if (wrap64 (a1 + 4)) ≤ (wrap64 ((wrap64 (a1 + 7)) + (Go.bits .or .i64 (wrap64 (rd l0 (wrap64 (a1 + 4)))) (wrap64 ((wrap64 (rd l0 (wrap64 ((wrap64 (a1 + 4)) + 1)))) * 256))))) then (if (wrap64 ((wrap64 (a1 + 7)) + (Go.bits .or .i64 (wrap64 (rd l0 (wrap64 (a1 + 4)))) (wrap64 ((wrap64 (rd l0 (wrap64 ((wrap64 (a1 + 4)) + 1)))) * 256))))) ≤ (l0.length : Int) then ((crc_Sum.f k ((l0.take ((wrap64 ((wrap64 (a1 + 7)) + (Go.bits .or .i64 (wrap64 (rd l0 (wrap64 (a1 + 4)))) (wrap64 ((wrap64 (rd l0 (wrap64 ((wrap64 (a1 + 4)) + 1)))) * 256))))) : Int).toNat).drop ((wrap64 (a1 + 4)) : Int).toNat)).bind fun t160 => (if t154 = t160 then (if 0 ≤ (wrap64 (a1 + 7)) then (if (wrap64 (a1 + 7)) ≤ (wrap64 ((wrap64 (a1 + 7)) + (Go.bits .or .i64 (wrap64 (rd l0 (wrap64 (a1 + 4)))) (wrap64 ((wrap64 (rd l0 (wrap64 ((wrap64 (a1 + 4)) + 1)))) * 256))))) then (some (rd l0 (wrap64 ((wrap64 (a1 + 7)) - 1)), ((l0.take ((wrap64 ((wrap64 (a1 + 7)) + (Go.bits .or .i64 (wrap64 (rd l0 (wrap64 (a1 + 4)))) (wrap64 ((wrap64 (rd l0 (wrap64 ((wrap64 (a1 + 4)) + 1)))) * 256))))) : Int).toNat).drop ((wrap64 (a1 + 7)) : Int).toNat), 0)) else (none)) else (none)) else (some (0, ([] : List Int), 2)))) else (none)) else (none))) else (none)) else (none)))) else (none)) else (none)))) else (none)) else (none)) else (none)) else (none))
theorem reclog_piece.mono : ∀ a0 a1 k, LeO (reclog_piece.f k a0 a1) (reclog_piece.f (k + 1) a0 a1) := by
  intro a0 a1 k
  unfold reclog_piece.f
  repeat' first
      | (with_reducible exact crc_Sum.mono _ _)
      | (with_reducible exact varint_Get32.mono _ _)
      | (with_reducible exact LeO.refl _)
      | (with_reducible exact LeO.none _)
      | (with_reducible refine LeO.ite ?_ ?_)
      | (with_reducible refine LeO.bind ?_ (fun _ => ?_))
      | exact crc_Sum.mono _ _
      | exact varint_Get32.mono _ _
      | exact LeO.none _
      | refine LeO.ite ?_ ?_
      | refine LeO.bind ?_ (fun _ => ?_)
set_option maxHeartbeats 8000000 in
set_option maxRecDepth 100000 in
theorem reclog_piece.calls (k : Nat) (P0_ : Nat → Prop) (A0 : Option Addr) (c0 : Nat) (l0 : List Int) (a1 : Int) (r1 : Int) (r2 : List Int) (r3 : Int) (w : World) (hs0 : Kd.V (Kd.int .u8) 5 w w.heap.size (fun k_ => P0_ k_) (.slice A0 l0.length c0) l0) (h : reclog_piece.f k l0 a1 = some (r1, r2, r3)) :
    Calls Try.prog 72 #[.slice A0 l0.length c0, .int .i64 a1] w fun e w' => ∃ v1_ : Value, e = .returned (.tuple #[.int .u8 r1, v1_, .int .i64 r3]) ∧ Kd.V (Kd.int .u8) 5 w' w.heap.size (fun k_ => (P0_ k_ ∨ w.heap.size ≤ k_)) v1_ r2 ∧ Below w.heap.size w w' := by
  have HO0 := Aside0.mk (show Kd.V (Kd.int .u8) 5 w w.heap.size (fun k_ => (P0_ k_ ∨ w.heap.size ≤ k_)) (.slice A0 l0.length c0) l0 from Kd.V_mono hs0 (fun k_ hk => .inl hk))
  have HB := Aside0.mk (Below.refl w.heap.size w)
  have H : (if (wrap64 ((l0.length : Int) - a1)) < 7 then (some (0, ([] : List Int), 1)) else (if 0 ≤ (wrap64 (a1 + 4)) then (if (wrap64 (a1 + 4)) < (l0.length : Int) then (if 0 ≤ (wrap64 ((wrap64 (a1 + 4)) + 1)) then (if (wrap64 ((wrap64 (a1 + 4)) + 1)) < (l0.length : Int) then (if (wrap64 ((wrap64 ((Int.tmod a1 256) + 7)) + (Go.bits .or .i64 (wrap64 (rd l0 (wrap64 (a1 + 4)))) (wrap64 ((wrap64 (rd l0 (wrap64 ((wrap64 (a1 + 4)) + 1)))) * 256))))) > 256 then (some (0, ([] : List Int), 2)) else (if (wrap64 ((wrap64 (a1 + 7)) + (Go.bits .or .i64 (wrap64 (rd l0 (wrap64 (a1 + 4)))) (wrap64 ((wrap64 (rd l0 (wrap64 ((wrap64 (a1 + 4)) + 1)))) * 256))))) > (l0.length : Int) then (some (0, ([] : List Int), 1)) else (if 0 ≤ (wrap64 ((wrap64 (a1 + 7)) - 1)) then (if (wrap64 ((wrap64 (a1 + 7)) - 1)) < (l0.length : Int) then (if (rd l0 (wrap64 ((wrap64 (a1 + 7)) - 1))) < 1 then (some (0, ([] : List Int), 2)) else (if (rd l0 (wrap64 ((wrap64 (a1 + 7)) - 1))) > 4 then (some (0, ([] : List Int), 2)) else (if 0 ≤ a1 then (if a1 ≤ (l0.length : Int) then ((varint_Get32.f k (l0.drop (a1 : Int).toNat)).bind fun t154 => (if (wrap64 (a1 + 4)) ≤ (wrap64 ((wrap64 (a1 + 7)) + (Go.bits .or .i64 (wrap64 (rd l0 (wrap64 (a1 + 4)))) (wrap64 ((wrap64 (rd l0 (wrap64 ((wrap64 (a1 + 4)) + 1)))) * 256))))) then (if (wrap64 ((wrap64 (a1 + 7)) + (Go.bits .or .i64 (wrap64 (rd l0 (wrap64 (a1 + 4)))) (wrap64 ((wrap64 (rd l0 (wrap64 ((wrap64 (a1 + 4)) + 1)))) * 256))))) ≤ (l0.length : Int) then ((crc_Sum.f k ((l0.take ((wrap64 ((wrap64 (a1 + 7)) + (Go.bits .or .i64 (wrap64 (rd l0 (wrap64 (a1 + 4)))) (wrap64 ((wrap64 (rd l0 (wrap64 ((wrap64 (a1 + 4)) + 1)))) * 256))))) : Int).toNat).drop ((wrap64 (a1 + 4)) : Int).toNat)).bind fun t160 => (if t154 = t160 then (if 0 ≤ (wrap64 (a1 + 7)) then (if (wrap64 (a1 + 7)) ≤ (wrap64 ((wrap64 (a1 + 7)) + (Go.bits .or .i64 (wrap64 (rd l0 (wrap64 (a1 + 4)))) (wrap64 ((wrap64 (rd l0 (wrap64 ((wrap64 (a1 + 4)) + 1)))) * 256))))) then (some (rd l0 (wrap64 ((wrap64 (a1 + 7)) - 1)), ((l0.take ((wrap64 ((wrap64 (a1 + 7)) + (Go.bits .or .i64 (wrap64 (rd l0 (wrap64 (a1 + 4)))) (wrap64 ((wrap64 (rd l0 (wrap64 ((wrap64 (a1 + 4)) + 1)))) * 256))))) : Int).toNat).drop ((wrap64 (a1 + 7)) : Int).toNat), 0)) else (none)) else (none)) else (some (0, ([] : List Int), 2)))) else (none)) else (none))) else (none)) else (none)))) else (none)) else (none)))) else (none)) else (none)) else (none)) else (none))) = some (r1, r2, r3) := h
  clear h
  by_cases c3 : (wrap64 ((l0.length : Int) - a1)) < 7
  · rw [if_pos c3] at H
    have c3b0 : decide ((wrap64 ((l0.length : Int) - a1)) < 7) = true := decide_eq_true c3
    clear c3
    simp only [Option.some.injEq, Prod.mk.injEq] at H
    obtain ⟨rfl, rfl, rfl⟩ := H
    go_enter Try.func72, Try.ntmps72
    go_wp2
    repeat (go_quiet (fail); try go_wp2)
    go_ret3
    exact ⟨_, by first | rfl | (simp [errW_none, errW_some] <;> rfl) | (simp [*, errW_none, errW_some] <;> rfl), (Kd.V_nil _ _ _ _ _), by repeat (first | (with_reducible first | exact HB.out | apply below_alloc | apply pw_below_drewN | apply below_drew1) | exact HB.out)⟩
  · rw [if_neg c3] at H
    have c3b0 : decide ((wrap64 ((l0.length : Int) - a1)) < 7) = false := decide_eq_false c3
    clear c3
    obtain ⟨ji4, hji4⟩ : ∃ j_ : Int, (wrap64 (a1 + 4)) = j_ := ⟨_, rfl⟩
    replace H : (if 0 ≤ (ji4) then (if (ji4) < (l0.length : Int) then (if 0 ≤ (wrap64 ((ji4) + 1)) then (if (wrap64 ((ji4) + 1)) < (l0.length : Int) then (if (wrap64 ((wrap64 ((Int.tmod a1 256) + 7)) + (Go.bits .or .i64 (wrap64 (rd l0 (ji4))) (wrap64 ((wrap64 (rd l0 (wrap64 ((ji4) + 1)))) * 256))))) > 256 then (some (0, ([] : List Int), 2)) else (if (wrap64 ((wrap64 (a1 + 7)) + (Go.bits .or .i64 (wrap64 (rd l0 (ji4))) (wrap64 ((wrap64 (rd l0 (wrap64 ((ji4) + 1)))) * 256))))) > (l0.length : Int) then (some (0, ([] : List Int), 1)) else (if 0 ≤ (wrap64 ((wrap64 (a1 + 7)) - 1)) then (if (wrap64 ((wrap64 (a1 + 7)) - 1)) < (l0.length : Int) then (if (rd l0 (wrap64 ((wrap64 (a1 + 7)) - 1))) < 1 then (some (0, ([] : List Int), 2)) else (if (rd l0 (wrap64 ((wrap64 (a1 + 7)) - 1))) > 4 then (some (0, ([] : List Int), 2)) else (if 0 ≤ a1 then (if a1 ≤ (l0.length : Int) then ((varint_Get32.f k (l0.drop (a1 : Int).toNat)).bind fun t154 => (if (ji4) ≤ (wrap64 ((wrap64 (a1 + 7)) + (Go.bits .or .i64 (wrap64 (rd l0 (ji4))) (wrap64 ((wrap64 (rd l0 (wrap64 ((ji4) + 1)))) * 256))))) then (if (wrap64 ((wrap64 (a1 + 7)) + (Go.bits .or .i64 (wrap64 (rd l0 (ji4))) (wrap64 ((wrap64 (rd l0 (wrap64 ((ji4) + 1)))) * 256))))) ≤ (l0.length : Int) then ((crc_Sum.f k ((l0.take ((wrap64 ((wrap64 (a1 + 7)) + (Go.bits .or .i64 (wrap64 (rd l0 (ji4))) (wrap64 ((wrap64 (rd l0 (wrap64 ((ji4) + 1)))) * 256))))) : Int).toNat).drop ((ji4) : Int).toNat)).bind fun t160 => (if t154 = t160 then (if 0 ≤ (wrap64 (a1 + 7)) then (if (wrap64 (a1 + 7)) ≤ (wrap64 ((wrap64 (a1 + 7)) + (Go.bits .or .i64 (wrap64 (rd l0 (ji4))) (wrap64 ((wrap64 (rd l0 (wrap64 ((ji4) + 1)))) * 256))))) then (some (rd l0 (wrap64 ((wrap64 (a1 + 7)) - 1)), ((l0.take ((wrap64 ((wrap64 (a1 + 7)) + (Go.bits .or .i64 (wrap64 (rd l0 (ji4))) (wrap64 ((wrap64 (rd l0 (wrap64 ((ji4) + 1)))) * 256))))) : Int).toNat).drop ((wrap64 (a1 + 7)) : Int).toNat), 0)) else (none)) else (none)) else (some (0, ([] : List Int), 2)))) else (none)) else (none))) else (none)) else (none)))) else (none)) else (none)))) else (none)) else (none)) else (none)) else (none)) = some (r1, r2, r3) := by first | (rw [hji4] at H; exact H) | (simp only [hji4] at H ⊢; exact H)
    have hji4w : (IntKind.i64.wrap (a1 + 4)) = ji4 := (i64_w _).trans hji4
    by_cases c5 : 0 ≤ (ji4)
    · rw [if_pos c5] at H
      have c5b0 : decide (0 ≤ (ji4)) = true := decide_eq_true c5
      clear c5
      by_cases c6 : (ji4) < (l0.length : Int)
      · rw [if_pos c6] at H
        have c6b0 : decide ((ji4) < (l0.length : Int)) = true := decide_eq_true c6
        clear c6
        obtain ⟨ji7, hji7⟩ : ∃ j_ : Int, (wrap64 ((ji4) + 1)) = j_ := ⟨_, rfl⟩
        replace H : (if 0 ≤ (ji7) then (if (ji7) < (l0.length : Int) then (if (wrap64 ((wrap64 ((Int.tmod a1 256) + 7)) + (Go.bits .or .i64 (wrap64 (rd l0 (ji4))) (wrap64 ((wrap64 (rd l0 (ji7))) * 256))))) > 256 then (some (0, ([] : List Int), 2)) else (if (wrap64 ((wrap64 (a1 + 7)) + (Go.bits .or .i64 (wrap64 (rd l0 (ji4))) (wrap64 ((wrap64 (rd l0 (ji7))) * 256))))) > (l0.length : Int) then (some (0, ([] : List Int), 1)) else (if 0 ≤ (wrap64 ((wrap64 (a1 + 7)) - 1)) then (if (wrap64 ((wrap64 (a1 + 7)) - 1)) < (l0.length : Int) then (if (rd l0 (wrap64 ((wrap64 (a1 + 7)) - 1))) < 1 then (some (0, ([] : List Int), 2)) else (if (rd l0 (wrap64 ((wrap64 (a1 + 7)) - 1))) > 4 then (some (0, ([] : List Int), 2)) else (if 0 ≤ a1 then (if a1 ≤ (l0.length : Int) then ((varint_Get32.f k (l0.drop (a1 : Int).toNat)).bind fun t154 => (if (ji4) ≤ (wrap64 ((wrap64 (a1 + 7)) + (Go.bits .or .i64 (wrap64 (rd l0 (ji4))) (wrap64 ((wrap64 (rd l0 (ji7))) * 256))))) then (if (wrap64 ((wrap64 (a1 + 7)) + (Go.bits .or .i64 (wrap64 (rd l0 (ji4))) (wrap64 ((wrap64 (rd l0 (ji7))) * 256))))) ≤ (l0.length : Int) then ((crc_Sum.f k ((l0.take ((wrap64 ((wrap64 (a1 + 7)) + (Go.bits .or .i64 (wrap64 (rd l0 (ji4))) (wrap64 ((wrap64 (rd l0 (ji7))) * 256))))) : Int).toNat).drop ((ji4) : Int).toNat)).bind fun t160 => (if t154 = t160 then (if 0 ≤ (wrap64 (a1 + 7)) then (if (wrap64 (a1 + 7)) ≤ (wrap64 ((wrap64 (a1 + 7)) + (Go.bits .or .i64 (wrap64 (rd l0 (ji4))) (wrap64 ((wrap64 (rd l0 (ji7))) * 256))))) then (some (rd l0 (wrap64 ((wrap64 (a1 + 7)) - 1)), ((l0.take ((wrap64 ((wrap64 (a1 + 7)) + (Go.bits .or .i64 (wrap64 (rd l0 (ji4))) (wrap64 ((wrap64 (rd l0 (ji7))) * 256))))) : Int).toNat).drop ((wrap64 (a1 + 7)) : Int).toNat), 0)) else (none)) else (none)) else (some (0, ([] : List Int), 2)))) else (none)) else (none))) else (none)) else (none)))) else (none)) else (none)))) else (none)) else (none)) = some (r1, r2, r3) := by first | (rw [hji7] at H; exact H) | (simp only [hji7] at H ⊢; exact H)
        have hji7w : (IntKind.i64.wrap ((ji4) + 1)) = ji7 := (i64_w _).trans hji7
        by_cases c8 : 0 ≤ (ji7)
        · rw [if_pos c8] at H
          have c8b0 : decide (0 ≤ (ji7)) = true := decide_eq_true c8
          clear c8
          by_cases c9 : (ji7) < (l0.length : Int)
          · rw [if_pos c9] at H
            have c9b0 : decide ((ji7) < (l0.length : Int)) = true := decide_eq_true c9
            clear c9
            by_cases c10 : (wrap64 ((wrap64 ((Int.tmod a1 256) + 7)) + (Go.bits .or .i64 (wrap64 (rd l0 (ji4))) (wrap64 ((wrap64 (rd l0 (ji7))) * 256))))) > 256
            · rw [if_pos c10] at H
              have c10b0 : decide (256 < (wrap64 ((wrap64 ((Int.tmod a1 256) + 7)) + (Go.bits .or .i64 (wrap64 (rd l0 (ji4))) (wrap64 ((wrap64 (rd l0 (ji7))) * 256)))))) = true := decide_eq_true c10
              clear c10
              simp only [Option.some.injEq, Prod.mk.injEq] at H
              obtain ⟨rfl, rfl, rfl⟩ := H
              have p146 : 0 ≤ ((ji4) : Int) := of_decide_eq_true (by first | (with_reducible assumption) | assumption)
              have q146 : (ji4) < (l0.length : Int) := of_decide_eq_true (by first | (with_reducible assumption) | assumption)
              obtain ⟨ad146, e146, hx146_0⟩ := Kd.at_int (Kd.V_reads' HO0.out).2.2 (ji4) p146 q146
              cases e146
              replace p146 := eq_true p146
              replace q146 := eq_true q146
              have p147 : 0 ≤ ((ji7) : Int) := of_decide_eq_true (by first | (with_reducible assumption) | assumption)
              have q147 : (ji7) < (l0.length : Int) := of_decide_eq_true (by first | (with_reducible assumption) | assumption)
              obtain ⟨ad147, e147, hx147_0⟩ := Kd.at_int (Kd.V_reads' HO0.out).2.2 (ji7) p147 q147
              obtain rfl : ad146 = ad147 := (by injection e147)
              replace p147 := eq_true p147
              replace q147 := eq_true q147
              (try (have e_ : wrap64 ((Int.tmod a1 256) + 7) = a1 % 256 + 7 := (by rw [Int.tmod_eq_emod_of_nonneg (of_eq_true (by assumption))]; unfold wrap64; omega); rw [e_] at c10b0; clear e_))
              go_enter Try.func72, Try.ntmps72
              go_wp2
              repeat (go_quiet (fail); try go_wp2)
              go_ret3
              exact ⟨_, by first | rfl | (simp [errW_none, errW_some] <;> rfl) | (simp only [← hji4, ← hji7]; first | rfl | (simp [errW_none, errW_some] <;> rfl)) | (simp [*, errW_none, errW_some] <;> rfl), (Kd.V_nil _ _ _ _ _), by repeat (first | (with_reducible first | exact HB.out | apply below_alloc | apply pw_below_drewN | apply below_drew1) | exact HB.out)⟩
            · rw [if_neg c10] at H
              have c10b0 : decide (256 < (wrap64 ((wrap64 ((Int.tmod a1 256) + 7)) + (Go.bits .or .i64 (wrap64 (rd l0 (ji4))) (wrap64 ((wrap64 (rd l0 (ji7))) * 256)))))) = false := decide_eq_false c10
              clear c10
              by_cases c11 : (wrap64 ((wrap64 (a1 + 7)) + (Go.bits .or .i64 (wrap64 (rd l0 (ji4))) (wrap64 ((wrap64 (rd l0 (ji7))) * 256))))) > (l0.length : Int)
              · rw [if_pos c11] at H
                have c11b0 : decide ((l0.length : Int) < (wrap64 ((wrap64 (a1 + 7)) + (Go.bits .or .i64 (wrap64 (rd l0 (ji4))) (wrap64 ((wrap64 (rd l0 (ji7))) * 256)))))) = true := decide_eq_true c11
                clear c11
                simp only [Option.some.injEq, Prod.mk.injEq] at H
                obtain ⟨rfl, rfl, rfl⟩ := H
                have p146 : 0 ≤ ((ji4) : Int) := of_decide_eq_true (by first | (with_reducible assumption) | assumption)
                have q146 : (ji4) < (l0.length : Int) := of_decide_eq_true (by first | (with_reducible assumption) | assumption)
                obtain ⟨ad146, e146, hx146_0⟩ := Kd.at_int (Kd.V_reads' HO0.out).2.2 (ji4) p146 q146
                cases e146
                replace p146 := eq_true p146
                replace q146 := eq_true q146
                have p147 : 0 ≤ ((ji7) : Int) := of_decide_eq_true (by first | (with_reducible assumption) | assumption)
                have q147 : (ji7) < (l0.length : Int) := of_decide_eq_true (by first | (with_reducible assumption) | assumption)
                obtain ⟨ad147, e147, hx147_0⟩ := Kd.at_int (Kd.V_reads' HO0.out).2.2 (ji7) p147 q147
                obtain rfl : ad146 = ad147 := (by injection e147)
                replace p147 := eq_true p147
                replace q147 := eq_true q147
                (try (have e_ : wrap64 ((Int.tmod a1 256) + 7) = a1 % 256 + 7 := (by rw [Int.tmod_eq_emod_of_nonneg (of_eq_true (by assumption))]; unfold wrap64; omega); rw [e_] at c10b0; clear e_))
                go_enter Try.func72, Try.ntmps72
                go_wp2
                repeat (go_quiet (fail); try go_wp2)
                go_ret3
                exact ⟨_, by first | rfl | (simp [errW_none, errW_some] <;> rfl) | (simp only [← hji4, ← hji7]; first | rfl | (simp [errW_none, errW_some] <;> rfl)) | (simp [*, errW_none, errW_some] <;> rfl), (Kd.V_nil _ _ _ _ _), by repeat (first | (with_reducible first | exact HB.out | apply below_alloc | apply pw_below_drewN | apply below_drew1) | exact HB.out)⟩
              · rw [if_neg c11] at H
                have c11b0 : decide ((l0.length : Int) < (wrap64 ((wrap64 (a1 + 7)) + (Go.bits .or .i64 (wrap64 (rd l0 (ji4))) (wrap64 ((wrap64 (rd l0 (ji7))) * 256)))))) = false := decide_eq_false c11
                clear c11
                obtain ⟨ji12, hji12⟩ : ∃ j_ : Int, (wrap64 ((wrap64 (a1 + 7)) - 1)) = j_ := ⟨_, rfl⟩
                replace H : (if 0 ≤ (ji12) then (if (ji12) < (l0.length : Int) then (if (rd l0 (ji12)) < 1 then (some (0, ([] : List Int), 2)) else (if (rd l0 (ji12)) > 4 then (some (0, ([] : List Int), 2)) else (if 0 ≤ a1 then (if a1 ≤ (l0.length : Int) then ((varint_Get32.f k (l0.drop (a1 : Int).toNat)).bind fun t154 => (if (ji4) ≤ (wrap64 ((wrap64 (a1 + 7)) + (Go.bits .or .i64 (wrap64 (rd l0 (ji4))) (wrap64 ((wrap64 (rd l0 (ji7))) * 256))))) then (if (wrap64 ((wrap64 (a1 + 7)) + (Go.bits .or .i64 (wrap64 (rd l0 (ji4))) (wrap64 ((wrap64 (rd l0 (ji7))) * 256))))) ≤ (l0.length : Int) then ((crc_Sum.f k ((l0.take ((wrap64 ((wrap64 (a1 + 7)) + (Go.bits .or .i64 (wrap64 (rd l0 (ji4))) (wrap64 ((wrap64 (rd l0 (ji7))) * 256))))) : Int).toNat).drop ((ji4) : Int).toNat)).bind fun t160 => (if t154 = t160 then (if 0 ≤ (wrap64 (a1 + 7)) then (if (wrap64 (a1 + 7)) ≤ (wrap64 ((wrap64 (a1 + 7)) + (Go.bits .or .i64 (wrap64 (rd l0 (ji4))) (wrap64 ((wrap64 (rd l0 (ji7))) * 256))))) then (some (rd l0 (ji12), ((l0.take ((wrap64 ((wrap64 (a1 + 7)) + (Go.bits .or .i64 (wrap64 (rd l0 (ji4))) (wrap64 ((wrap64 (rd l0 (ji7))) * 256))))) : Int).toNat).drop ((wrap64 (a1 + 7)) : Int).toNat), 0)) else (none)) else (none)) else (some (0, ([] : List Int), 2)))) else (none)) else (none))) else (none)) else (none)))) else (none)) else (none)) = some (r1, r2, r3) := by first | (rw [hji12] at H; exact H) | (simp only [hji12] at H ⊢; exact H)
                have hji12w : (IntKind.i64.wrap ((wrap64 (a1 + 7)) - 1)) = ji12 := (i64_w _).trans hji12
                by_cases c13 : 0 ≤ (ji12)
                · rw [if_pos c13] at H
                  have c13b0 : decide (0 ≤ (ji12)) = true := decide_eq_true c13
                  clear c13
                  by_cases c14 : (ji12) < (l0.length : Int)
                  · rw [if_pos c14] at H
                    have c14b0 : decide ((ji12) < (l0.length : Int)) = true := decide_eq_true c14
                    clear c14
                    by_cases c15 : (rd l0 (ji12)) < 1
                    · rw [if_pos c15] at H
                      have c15b0 : decide ((rd l0 (ji12)) < 1) = true := decide_eq_true c15
                      clear c15
                      simp only [Option.some.injEq, Prod.mk.injEq] at H
                      obtain ⟨rfl, rfl, rfl⟩ := H
                      have p146 : 0 ≤ ((ji4) : Int) := of_decide_eq_true (by first | (with_reducible assumption) | assumption)
                      have q146 : (ji4) < (l0.length : Int) := of_decide_eq_true (by first | (with_reducible assumption) | assumption)
                      obtain ⟨ad146, e146, hx146_0⟩ := Kd.at_int (Kd.V_reads' HO0.out).2.2 (ji4) p146 q146
                      cases e146
                      replace p146 := eq_true p146
                      replace q146 := eq_true q146
                      have p147 : 0 ≤ ((ji7) : Int) := of_decide_eq_true (by first | (with_reducible assumption) | assumption)
                      have q147 : (ji7) < (l0.length : Int) := of_decide_eq_true (by first | (with_reducible assumption) | assumption)
                      obtain ⟨ad147, e147, hx147_0⟩ := Kd.at_int (Kd.V_reads' HO0.out).2.2 (ji7) p147 q147
                      obtain rfl : ad146 = ad147 := (by injection e147)
                      replace p147 := eq_true p147
                      replace q147 := eq_true q147
                      have p148 : 0 ≤ ((ji12) : Int) := of_decide_eq_true (by first | (with_reducible assumption) | assumption)
                      have q148 : (ji12) < (l0.length : Int) := of_decide_eq_true (by first | (with_reducible assumption) | assumption)
                      obtain ⟨ad148, e148, hx148_0⟩ := Kd.at_int (Kd.V_reads' HO0.out).2.2 (ji12) p148 q148
                      obtain rfl : ad146 = ad148 := (by injection e148)
                      replace p148 := eq_true p148
                      replace q148 := eq_true q148
                      (try (have e_ : wrap64 ((Int.tmod a1 256) + 7) = a1 % 256 + 7 := (by rw [Int.tmod_eq_emod_of_nonneg (of_eq_true (by assumption))]; unfold wrap64; omega); rw [e_] at c10b0; clear e_))
                      go_enter Try.func72, Try.ntmps72
                      go_wp2
                      repeat (go_quiet (fail); try go_wp2)
                      go_ret3
                      exact ⟨_, by first | rfl | (simp [errW_none, errW_some] <;> rfl) | (simp only [← hji4, ← hji7, ← hji12]; first | rfl | (simp [errW_none, errW_some] <;> rfl)) | (simp [*, errW_none, errW_some] <;> rfl), (Kd.V_nil _ _ _ _ _), by repeat (first | (with_reducible first | exact HB.out | apply below_alloc | apply pw_below_drewN | apply below_drew1) | exact HB.out)⟩
                    · rw [if_neg c15] at H
                      have c15b0 : decide ((rd l0 (ji12)) < 1) = false := decide_eq_false c15
                      clear c15
                      by_cases c16 : (rd l0 (ji12)) > 4
                      · rw [if_pos c16] at H
                        have c16b0 : decide (4 < (rd l0 (ji12))) = true := decide_eq_true c16
                        clear c16
                        simp only [Option.some.injEq, Prod.mk.injEq] at H
                        obtain ⟨rfl, rfl, rfl⟩ := H
                        have p146 : 0 ≤ ((ji4) : Int) := of_decide_eq_true (by first | (with_reducible assumption) | assumption)
                        have q146 : (ji4) < (l0.length : Int) := of_decide_eq_true (by first | (with_reducible assumption) | assumption)
                        obtain ⟨ad146, e146, hx146_0⟩ := Kd.at_int (Kd.V_reads' HO0.out).2.2 (ji4) p146 q146
                        cases e146
                        replace p146 := eq_true p146
                        replace q146 := eq_true q146
                        have p147 : 0 ≤ ((ji7) : Int) := of_decide_eq_true (by first | (with_reducible assumption) | assumption)
                        have q147 : (ji7) < (l0.length : Int) := of_decide_eq_true (by first | (with_reducible assumption) | assumption)
                        obtain ⟨ad147, e147, hx147_0⟩ := Kd.at_int (Kd.V_reads' HO0.out).2.2 (ji7) p147 q147
                        obtain rfl : ad146 = ad147 := (by injection e147)
                        replace p147 := eq_true p147
                        replace q147 := eq_true q147
                        have p148 : 0 ≤ ((ji12) : Int) := of_decide_eq_true (by first | (with_reducible assumption) | assumption)
                        have q148 : (ji12) < (l0.length : Int) := of_decide_eq_true (by first | (with_reducible assumption) | assumption)
                        obtain ⟨ad148, e148, hx148_0⟩ := Kd.at_int (Kd.V_reads' HO0.out).2.2 (ji12) p148 q148
                        obtain rfl : ad146 = ad148 := (by injection e148)
                        replace p148 := eq_true p148
                        replace q148 := eq_true q148
                        (try (have e_ : wrap64 ((Int.tmod a1 256) + 7) = a1 % 256 + 7 := (by rw [Int.tmod_eq_emod_of_nonneg (of_eq_true (by assumption))]; unfold wrap64; omega); rw [e_] at c10b0; clear e_))
                        go_enter Try.func72, Try.ntmps72
                        go_wp2
                        repeat (go_quiet (fail); try go_wp2)
                        go_ret3
                        exact ⟨_, by first | rfl | (simp [errW_none, errW_some] <;> rfl) | (simp only [← hji4, ← hji7, ← hji12]; first | rfl | (simp [errW_none, errW_some] <;> rfl)) | (simp [*, errW_none, errW_some] <;> rfl), (Kd.V_nil _ _ _ _ _), by repeat (first | (with_reducible first | exact HB.out | apply below_alloc | apply pw_below_drewN | apply below_drew1) | exact HB.out)⟩
                      · rw [if_neg c16] at H
                        have c16b0 : decide (4 < (rd l0 (ji12))) = false := decide_eq_false c16
                        clear c16
                        by_cases c17 : 0 ≤ a1
                        · rw [if_pos c17] at H
                          have c17b0 := eq_true c17
                          have c17b1 : decide (0 ≤ a1) = true := decide_eq_true c17
                          clear c17
                          by_cases c18 : a1 ≤ (l0.length : Int)
                          · rw [if_pos c18] at H
                            have c18b0 := eq_true c18
                            have c18b1 : decide (a1 ≤ (l0.length : Int)) = true := decide_eq_true c18
                            clear c18
                            obtain ⟨y149, hy149⟩ : ∃ y_ : List Int, y_ = (l0.drop (a1 : Int).toNat) := ⟨_, rfl⟩
                            replace H : ((varint_Get32.f k y149).bind fun t154 => (if (ji4) ≤ (wrap64 ((wrap64 (a1 + 7)) + (Go.bits .or .i64 (wrap64 (rd l0 (ji4))) (wrap64 ((wrap64 (rd l0 (ji7))) * 256))))) then (if (wrap64 ((wrap64 (a1 + 7)) + (Go.bits .or .i64 (wrap64 (rd l0 (ji4))) (wrap64 ((wrap64 (rd l0 (ji7))) * 256))))) ≤ (l0.length : Int) then ((crc_Sum.f k ((l0.take ((wrap64 ((wrap64 (a1 + 7)) + (Go.bits .or .i64 (wrap64 (rd l0 (ji4))) (wrap64 ((wrap64 (rd l0 (ji7))) * 256))))) : Int).toNat).drop ((ji4) : Int).toNat)).bind fun t160 => (if t154 = t160 then (if 0 ≤ (wrap64 (a1 + 7)) then (if (wrap64 (a1 + 7)) ≤ (wrap64 ((wrap64 (a1 + 7)) + (Go.bits .or .i64 (wrap64 (rd l0 (ji4))) (wrap64 ((wrap64 (rd l0 (ji7))) * 256))))) then (some (rd l0 (ji12), ((l0.take ((wrap64 ((wrap64 (a1 + 7)) + (Go.bits .or .i64 (wrap64 (rd l0 (ji4))) (wrap64 ((wrap64 (rd l0 (ji7))) * 256))))) : Int).toNat).drop ((wrap64 (a1 + 7)) : Int).toNat), 0)) else (none)) else (none)) else (some (0, ([] : List Int), 2)))) else (none)) else (none))) = some (r1, r2, r3) := by first | (rw [hy149]; with_reducible exact H) | (have H2_ := (Option.bind_some _ _).symm.trans H; rw [hy149]; with_reducible exact H2_) | (have H2_ := (Option.bind_some _ _).symm.trans H; with_reducible exact H2_) | with_reducible exact H | (rw [hy149]; exact H) | exact H
                            have Ny149 := Aside0.mk hy149
                            clear hy149
                            replace H := Option.bind_eq_some_iff.mp H
                            obtain ⟨t154, A190, H⟩ := H
                            replace H : (if (ji4) ≤ (wrap64 ((wrap64 (a1 + 7)) + (Go.bits .or .i64 (wrap64 (rd l0 (ji4))) (wrap64 ((wrap64 (rd l0 (ji7))) * 256))))) then (if (wrap64 ((wrap64 (a1 + 7)) + (Go.bits .or .i64 (wrap64 (rd l0 (ji4))) (wrap64 ((wrap64 (rd l0 (ji7))) * 256))))) ≤ (l0.length : Int) then ((crc_Sum.f k ((l0.take ((wrap64 ((wrap64 (a1 + 7)) + (Go.bits .or .i64 (wrap64 (rd l0 (ji4))) (wrap64 ((wrap64 (rd l0 (ji7))) * 256))))) : Int).toNat).drop ((ji4) : Int).toNat)).bind fun t160 => (if t154 = t160 then (if 0 ≤ (wrap64 (a1 + 7)) then (if (wrap64 (a1 + 7)) ≤ (wrap64 ((wrap64 (a1 + 7)) + (Go.bits .or .i64 (wrap64 (rd l0 (ji4))) (wrap64 ((wrap64 (rd l0 (ji7))) * 256))))) then (some (rd l0 (ji12), ((l0.take ((wrap64 ((wrap64 (a1 + 7)) + (Go.bits .or .i64 (wrap64 (rd l0 (ji4))) (wrap64 ((wrap64 (rd l0 (ji7))) * 256))))) : Int).toNat).drop ((wrap64 (a1 + 7)) : Int).toNat), 0)) else (none)) else (none)) else (some (0, ([] : List Int), 2)))) else (none)) else (none)) = some (r1, r2, r3) := H
                            have A19 := Aside0.mk A190
                            clear A190
                            have c20b0 := eq_true (of_decide_eq_true (by first | (with_reducible assumption) | assumption) : 0 ≤ (ji4))
                            by_cases c21 : (ji4) ≤ (wrap64 ((wrap64 (a1 + 7)) + (Go.bits .or .i64 (wrap64 (rd l0 (ji4))) (wrap64 ((wrap64 (rd l0 (ji7))) * 256)))))
                            · rw [if_pos c21] at H
                              have c21b0 := eq_true c21
                              have c21b1 : decide ((ji4) ≤ (wrap64 ((wrap64 (a1 + 7)) + (Go.bits .or .i64 (wrap64 (rd l0 (ji4))) (wrap64 ((wrap64 (rd l0 (ji7))) * 256)))))) = true := decide_eq_true c21
                              by_cases c22 : (wrap64 ((wrap64 (a1 + 7)) + (Go.bits .or .i64 (wrap64 (rd l0 (ji4))) (wrap64 ((wrap64 (rd l0 (ji7))) * 256))))) ≤ (l0.length : Int)
                              · rw [if_pos c22] at H
                                have c22b0 := eq_true c22
                                have c22b1 : decide ((wrap64 ((wrap64 (a1 + 7)) + (Go.bits .or .i64 (wrap64 (rd l0 (ji4))) (wrap64 ((wrap64 (rd l0 (ji7))) * 256))))) ≤ (l0.length : Int)) = true := decide_eq_true c22
                                obtain ⟨y155, hy155⟩ : ∃ y_ : List Int, y_ = ((l0.take ((wrap64 ((wrap64 (a1 + 7)) + (Go.bits .or .i64 (wrap64 (rd l0 (ji4))) (wrap64 ((wrap64 (rd l0 (ji7))) * 256))))) : Int).toNat).drop ((ji4) : Int).toNat) := ⟨_, rfl⟩
                                replace H : ((crc_Sum.f k y155).bind fun t160 => (if t154 = t160 then (if 0 ≤ (wrap64 (a1 + 7)) then (if (wrap64 (a1 + 7)) ≤ (wrap64 ((wrap64 (a1 + 7)) + (Go.bits .or .i64 (wrap64 (rd l0 (ji4))) (wrap64 ((wrap64 (rd l0 (ji7))) * 256))))) then (some (rd l0 (ji12), ((l0.take ((wrap64 ((wrap64 (a1 + 7)) + (Go.bits .or .i64 (wrap64 (rd l0 (ji4))) (wrap64 ((wrap64 (rd l0 (ji7))) * 256))))) : Int).toNat).drop ((wrap64 (a1 + 7)) : Int).toNat), 0)) else (none)) else (none)) else (some (0, ([] : List Int), 2)))) = some (r1, r2, r3) := by first | (rw [hy155]; with_reducible exact H) | (have H2_ := (Option.bind_some _ _).symm.trans H; rw [hy155]; with_reducible exact H2_) | (have H2_ := (Option.bind_some _ _).symm.trans H; with_reducible exact H2_) | with_reducible exact H | (rw [hy155]; exact H) | exact H
                                have Ny155 := Aside0.mk hy155
                                clear hy155
                                replace H := Option.bind_eq_some_iff.mp H
                                obtain ⟨t160, A230, H⟩ := H
                                replace H : (if t154 = t160 then (if 0 ≤ (wrap64 (a1 + 7)) then (if (wrap64 (a1 + 7)) ≤ (wrap64 ((wrap64 (a1 + 7)) + (Go.bits .or .i64 (wrap64 (rd l0 (ji4))) (wrap64 ((wrap64 (rd l0 (ji7))) * 256))))) then (some (rd l0 (ji12), ((l0.take ((wrap64 ((wrap64 (a1 + 7)) + (Go.bits .or .i64 (wrap64 (rd l0 (ji4))) (wrap64 ((wrap64 (rd l0 (ji7))) * 256))))) : Int).toNat).drop ((wrap64 (a1 + 7)) : Int).toNat), 0)) else (none)) else (none)) else (some (0, ([] : List Int), 2))) = some (r1, r2, r3) := H
                                have A23 := Aside0.mk A230
                                clear A230
                                by_cases c24 : t154 = t160
                                · rw [if_pos c24] at H
                                  have c24b0 : (t154 == t160) = true := beq_iff_eq.mpr c24
                                  have c24b1 : (t154 != t160) = false := bne_eq_false_iff_eq.mpr c24
                                  clear c24
                                  obtain ⟨ji25, hji25⟩ : ∃ j_ : Int, (wrap64 (a1 + 7)) = j_ := ⟨_, rfl⟩
                                  replace H : (if 0 ≤ (ji25) then (if (ji25) ≤ (wrap64 ((ji25) + (Go.bits .or .i64 (wrap64 (rd l0 (ji4))) (wrap64 ((wrap64 (rd l0 (ji7))) * 256))))) then (some (rd l0 (ji12), ((l0.take ((wrap64 ((ji25) + (Go.bits .or .i64 (wrap64 (rd l0 (ji4))) (wrap64 ((wrap64 (rd l0 (ji7))) * 256))))) : Int).toNat).drop ((ji25) : Int).toNat), 0)) else (none)) else (none)) = some (r1, r2, r3) := by first | (rw [hji25] at H; exact H) | (simp only [hji25] at H ⊢; exact H)
                                  (try rw [hji25] at c11b0)
                                  (try rw [hji25] at c21b0)
                                  (try rw [hji25] at c21b1)
                                  (try rw [hji25] at c21)
                                  (try rw [hji25] at c22b0)
                                  (try rw [hji25] at c22b1)
                                  (try rw [hji25] at c22)
                                  have hji12ji25q : (wrap64 ((ji25) - 1)) = ji12 := by rw [← hji25]; exact hji12
                                  have hji12ji25v : (IntKind.i64.wrap ((ji25) - 1)) = ji12 := (i64_w _).trans hji12ji25q
                                  (try rw [hji25] at A19)
                                  (try rw [hji25] at Ny155)
                                  (try rw [hji25] at A23)
                                  have hji25w : (IntKind.i64.wrap (a1 + 7)) = ji25 := (i64_w _).trans hji25
                                  by_cases c26 : 0 ≤ (ji25)
                                  · rw [if_pos c26] at H
                                    have c26b0 := eq_true c26
                                    have c26b1 : decide (0 ≤ (ji25)) = true := decide_eq_true c26
                                    clear c26
                                    by_cases c27 : (ji25) ≤ (wrap64 ((ji25) + (Go.bits .or .i64 (wrap64 (rd l0 (ji4))) (wrap64 ((wrap64 (rd l0 (ji7))) * 256)))))
                                    · rw [if_pos c27] at H
                                      have c27b0 := eq_true c27
                                      have c27b1 : decide ((ji25) ≤ (wrap64 ((ji25) + (Go.bits .or .i64 (wrap64 (rd l0 (ji4))) (wrap64 ((wrap64 (rd l0 (ji7))) * 256)))))) = true := decide_eq_true c27
                                      have c28b0 := eq_true (of_decide_eq_true (by first | (with_reducible assumption) | assumption) : (wrap64 ((ji25) + (Go.bits .or .i64 (wrap64 (rd l0 (ji4))) (wrap64 ((wrap64 (rd l0 (ji7))) * 256))))) ≤ (l0.length : Int))
                                      obtain ⟨y161, hy161⟩ : ∃ y_ : List Int, y_ = ((l0.take ((wrap64 ((ji25) + (Go.bits .or .i64 (wrap64 (rd l0 (ji4))) (wrap64 ((wrap64 (rd l0 (ji7))) * 256))))) : Int).toNat).drop ((ji25) : Int).toNat) := ⟨_, rfl⟩
                                      replace H : (some (rd l0 (ji12), y161, 0)) = some (r1, r2, r3) := by first | (rw [hy161]; with_reducible exact H) | (have H2_ := (Option.bind_some _ _).symm.trans H; rw [hy161]; with_reducible exact H2_) | (have H2_ := (Option.bind_some _ _).symm.trans H; with_reducible exact H2_) | with_reducible exact H | (rw [hy161]; exact H) | exact H
                                      have Ny161 := Aside0.mk hy161
                                      clear hy161
                                      simp only [Option.some.injEq, Prod.mk.injEq] at H
                                      obtain ⟨rfl, rfl, rfl⟩ := H
                                      have p146 : 0 ≤ ((ji4) : Int) := of_decide_eq_true (by first | (with_reducible assumption) | assumption)
                                      have q146 : (ji4) < (l0.length : Int) := of_decide_eq_true (by first | (with_reducible assumption) | assumption)
                                      obtain ⟨ad146, e146, hx146_0⟩ := Kd.at_int (Kd.V_reads' HO0.out).2.2 (ji4) p146 q146
                                      cases e146
                                      replace p146 := eq_true p146
                                      replace q146 := eq_true q146
                                      have p147 : 0 ≤ ((ji7) : Int) := of_decide_eq_true (by first | (with_reducible assumption) | assumption)
                                      have q147 : (ji7) < (l0.length : Int) := of_decide_eq_true (by first | (with_reducible assumption) | assumption)
                                      obtain ⟨ad147, e147, hx147_0⟩ := Kd.at_int (Kd.V_reads' HO0.out).2.2 (ji7) p147 q147
                                      obtain rfl : ad146 = ad147 := (by injection e147)
                                      replace p147 := eq_true p147
                                      replace q147 := eq_true q147
                                      have p148 : 0 ≤ ((ji12) : Int) := of_decide_eq_true (by first | (with_reducible assumption) | assumption)
                                      have q148 : (ji12) < (l0.length : Int) := of_decide_eq_true (by first | (with_reducible assumption) | assumption)
                                      obtain ⟨ad148, e148, hx148_0⟩ := Kd.at_int (Kd.V_reads' HO0.out).2.2 (ji12) p148 q148
                                      obtain rfl : ad146 = ad148 := (by injection e148)
                                      replace p148 := eq_true p148
                                      replace q148 := eq_true q148
                                      have q29 : (a1 : Int) ≤ ((l0.length : Int) : Int) := of_decide_eq_true (by first | (with_reducible assumption) | assumption)
                                      obtain ⟨i029, hi029, _, hsz29, _⟩ := info_parts info5
                                      have hroom29 : l0.length ≤ c0 := (Kd.V_reads' HO0.out).2.1
                                      have hC29 : Kd.F (Kd.int .u8) _ _ (some ad146) l0.length l0 := (Kd.V_at (base := w.heap.size) HO0.out).2.2
                                      have q029 : (0 : Int) ≤ (a1 : Int) := of_decide_eq_true (by first | (with_reducible assumption) | assumption)
                                      have hcut29 := cut_from (P := Try.prog) 41 5 .i64 Try.underlying41 hi029 1 hsz29 (some ad146) l0.length c0 a1 q029 q29
                                      have hr29 := Kd.F_cut (m := (a1 : Int).toNat) (c := c0) hC29 (by omega) hroom29
                                      obtain ⟨A29, hA29⟩ : ∃ A1, A1 = (if c0 = (a1 : Int).toNat then (some ad146) else ((some ad146) : Option Addr).map (·.add ((a1 : Int).toNat * 1))) := ⟨_, rfl⟩
                                      obtain ⟨c29, hc29⟩ : ∃ c1, c1 = c0 - (a1 : Int).toNat := ⟨_, rfl⟩
                                      have hy29 : y149.length = l0.length - (a1 : Int).toNat := (by rw [Ny149.out, List.length_drop] <;> omega)
                                      rw [show (l0).drop (a1 : Int).toNat = y149 from Ny149.out.symm] at hr29
                                      replace hr29 : Kd.F (Kd.int .u8) _ _ A29 y149.length y149 := (by rw [hA29]; exact hr29)
                                      rw [← hy29, ← hA29, ← hc29] at hcut29
                                      have HO153 := Aside0.mk (show Kd.V (Kd.int .u8) 5 _ w.heap.size _ (.slice A29 y149.length c29) y149 from Kd.V_mk (by rw [hy29, hc29]; exact Nat.sub_le_sub_right hroom29 _) hr29)
                                      have HC153 := Aside0.mk (show y149.length ≤ c29 from by rw [hy29, hc29]; exact Nat.sub_le_sub_right hroom29 _)
                                      clear hr29 hC29 hroom29 hi029 hsz29 hc29
                                      have KY29 := Aside0.mk hy29
                                      have KA29 := Aside0.mk hA29
                                      clear hy29 hA29
                                      replace q29 := eq_true q29
                                      (try (have e_ : wrap64 ((Int.tmod a1 256) + 7) = a1 % 256 + 7 := (by rw [Int.tmod_eq_emod_of_nonneg (of_eq_true (by assumption))]; unfold wrap64; omega); rw [e_] at c10b0; clear e_))
                                      go_enter Try.func72, Try.ntmps72
                                      go_wp2_with (first | (go_at_call 78; (with_reducible refine (varint_Get32.calls k _ _ y149 t154 _ ?side1 ?side2 A19.out).mono ?_); (case side1 => repeat (first | exact (Kd.V_reads' HO153.out).2.2 | (with_reducible refine Kd.C_alloc ?_ _) | (with_reducible refine Kd.C_drewN ?_ _) | (with_reducible refine Kd.C_drew ?_))); (case side2 => exact (Kd.V_reads' HO153.out).2.1); rintro e w' ⟨rfl, ⟨nd, rfl⟩⟩; (try first | exact ⟨rfl, _, World.drewN_drewN _ _ _⟩ | exact ⟨rfl, _, Eq.trans (World.drewN_drewN _ _ _) (congrArg (World.drewN _) (Nat.add_assoc _ _ _))⟩); have q30 : ((wrap64 ((ji25) + (Go.bits .or .i64 (wrap64 (rd l0 (ji4))) (wrap64 ((wrap64 (rd l0 (ji7))) * 256))))) : Int) ≤ ((l0.length : Int) : Int) := of_decide_eq_true (by first | (with_reducible assumption) | assumption); obtain ⟨i030, hi030, _, hsz30, _⟩ := info_parts info5; have hroom30 : l0.length ≤ c0 := (Kd.V_reads' HO0.out).2.1; have hC30 : Kd.F (Kd.int .u8) _ _ (some ad146) l0.length l0 := (Kd.V_at (base := w.heap.size) HO0.out).2.2; have ql30 : ((ji4) : Int) ≤ ((wrap64 ((ji25) + (Go.bits .or .i64 (wrap64 (rd l0 (ji4))) (wrap64 ((wrap64 (rd l0 (ji7))) * 256))))) : Int) := of_decide_eq_true (by first | (with_reducible assumption) | assumption); have q030 : (0 : Int) ≤ ((ji4) : Int) := of_decide_eq_true (by first | (with_reducible assumption) | assumption); have hcut30 := cut_mid (P := Try.prog) 41 5 .i64 .i64 Try.underlying41 hi030 1 hsz30 (some ad146) l0.length c0 (ji4) (wrap64 ((ji25) + (Go.bits .or .i64 (wrap64 (rd l0 (ji4))) (wrap64 ((wrap64 (rd l0 (ji7))) * 256))))) q030 ql30 q30 hroom30; have hr30 := Kd.F_mid (lo := ((ji4) : Int).toNat) (hi := ((wrap64 ((ji25) + (Go.bits .or .i64 (wrap64 (rd l0 (ji4))) (wrap64 ((wrap64 (rd l0 (ji7))) * 256))))) : Int).toNat) (c := c0) hC30 (by omega) (by omega) hroom30; obtain ⟨A30, hA30⟩ : ∃ A1, A1 = (if c0 = ((ji4) : Int).toNat then (some ad146) else ((some ad146) : Option Addr).map (·.add (((ji4) : Int).toNat * 1))) := ⟨_, rfl⟩; obtain ⟨c30, hc30⟩ : ∃ c1, c1 = c0 - ((ji4) : Int).toNat := ⟨_, rfl⟩; have hy30 : y155.length = ((wrap64 ((ji25) + (Go.bits .or .i64 (wrap64 (rd l0 (ji4))) (wrap64 ((wrap64 (rd l0 (ji7))) * 256))))) : Int).toNat - ((ji4) : Int).toNat := (by rw [Ny155.out, List.length_drop, List.length_take] <;> omega); rw [show ((l0).take ((wrap64 ((ji25) + (Go.bits .or .i64 (wrap64 (rd l0 (ji4))) (wrap64 ((wrap64 (rd l0 (ji7))) * 256))))) : Int).toNat).drop ((ji4) : Int).toNat = y155 from Ny155.out.symm] at hr30; replace hr30 : Kd.F (Kd.int .u8) _ _ A30 y155.length y155 := (by rw [hA30]; exact hr30); rw [← hy30, ← hA30, ← hc30] at hcut30; have HO159 := Aside0.mk (show Kd.V (Kd.int .u8) 5 _ w.heap.size _ (.slice A30 y155.length c30) y155 from Kd.V_mk (by rw [hy30, hc30]; exact Nat.sub_le_sub_right (Nat.le_trans (by omega) hroom30) _) hr30); have HC159 := Aside0.mk (show y155.length ≤ c30 from by rw [hy30, hc30]; exact Nat.sub_le_sub_right (Nat.le_trans (by omega) hroom30) _); clear hr30 hC30 hroom30 hi030 hsz30 hc30; have KY30 := Aside0.mk hy30; have KA30 := Aside0.mk hA30; clear hy30 hA30; replace q30 := eq_true q30) | (go_at_call 58; (with_reducible refine (crc_Sum.calls k _ _ y155 t160 _ ?side1 ?side2 A23.out).mono ?_); (case side1 => repeat (first | exact (Kd.V_reads' HO159.out).2.2 | (with_reducible refine Kd.C_alloc ?_ _) | (with_reducible refine Kd.C_drewN ?_ _) | (with_reducible refine Kd.C_drew ?_))); (case side2 => exact (Kd.V_reads' HO159.out).2.1); rintro e w' ⟨rfl, ⟨nd, rfl⟩⟩; (try first | exact ⟨rfl, _, World.drewN_drewN _ _ _⟩ | exact ⟨rfl, _, Eq.trans (World.drewN_drewN _ _ _) (congrArg (World.drewN _) (Nat.add_assoc _ _ _))⟩); have q31 : ((wrap64 ((ji25) + (Go.bits .or .i64 (wrap64 (rd l0 (ji4))) (wrap64 ((wrap64 (rd l0 (ji7))) * 256))))) : Int) ≤ ((l0.length : Int) : Int) := of_decide_eq_true (by first | (with_reducible assumption) | assumption); obtain ⟨i031, hi031, _, hsz31, _⟩ := info_parts info5; have hroom31 : l0.length ≤ c0 := (Kd.V_reads' HO0.out).2.1; have hC31 : Kd.F (Kd.int .u8) _ _ (some ad146) l0.length l0 := (Kd.V_at (base := w.heap.size) HO0.out).2.2; have ql31 : ((ji25) : Int) ≤ ((wrap64 ((ji25) + (Go.bits .or .i64 (wrap64 (rd l0 (ji4))) (wrap64 ((wrap64 (rd l0 (ji7))) * 256))))) : Int) := of_decide_eq_true (by first | (with_reducible assumption) | assumption); have q031 : (0 : Int) ≤ ((ji25) : Int) := of_decide_eq_true (by first | (with_reducible assumption) | assumption); have hcut31 := cut_mid (P := Try.prog) 41 5 .i64 .i64 Try.underlying41 hi031 1 hsz31 (some ad146) l0.length c0 (ji25) (wrap64 ((ji25) + (Go.bits .or .i64 (wrap64 (rd l0 (ji4))) (wrap64 ((wrap64 (rd l0 (ji7))) * 256))))) q031 ql31 q31 hroom31; have hr31 := Kd.F_mid (lo := ((ji25) : Int).toNat) (hi := ((wrap64 ((ji25) + (Go.bits .or .i64 (wrap64 (rd l0 (ji4))) (wrap64 ((wrap64 (rd l0 (ji7))) * 256))))) : Int).toNat) (c := c0) hC31 (by omega) (by omega) hroom31; obtain ⟨A31, hA31⟩ : ∃ A1, A1 = (if c0 = ((ji25) : Int).toNat then (some ad146) else ((some ad146) : Option Addr).map (·.add (((ji25) : Int).toNat * 1))) := ⟨_, rfl⟩; obtain ⟨c31, hc31⟩ : ∃ c1, c1 = c0 - ((ji25) : Int).toNat := ⟨_, rfl⟩; have hy31 : y161.length = ((wrap64 ((ji25) + (Go.bits .or .i64 (wrap64 (rd l0 (ji4))) (wrap64 ((wrap64 (rd l0 (ji7))) * 256))))) : Int).toNat - ((ji25) : Int).toNat := (by rw [Ny161.out, List.length_drop, List.length_take] <;> omega); rw [show ((l0).take ((wrap64 ((ji25) + (Go.bits .or .i64 (wrap64 (rd l0 (ji4))) (wrap64 ((wrap64 (rd l0 (ji7))) * 256))))) : Int).toNat).drop ((ji25) : Int).toNat = y161 from Ny161.out.symm] at hr31; replace hr31 : Kd.F (Kd.int .u8) _ _ A31 y161.length y161 := (by rw [hA31]; exact hr31); rw [← hy31, ← hA31, ← hc31] at hcut31; have HO165 := Aside0.mk (show Kd.V (Kd.int .u8) 5 _ w.heap.size _ (.slice A31 y161.length c31) y161 from Kd.V_mk (by rw [hy31, hc31]; exact Nat.sub_le_sub_right (Nat.le_trans (by omega) hroom31) _) hr31); have HC165 := Aside0.mk (show y161.length ≤ c31 from by rw [hy31, hc31]; exact Nat.sub_le_sub_right (Nat.le_trans (by omega) hroom31) _); clear hr31 hC31 hroom31 hi031 hsz31 hc31; have KY31 := Aside0.mk hy31; have KA31 := Aside0.mk hA31; clear hy31 hA31; replace q31 := eq_true q31))
                                      repeat (go_quiet (first | (go_at_call 78; (with_reducible refine (varint_Get32.calls k _ _ y149 t154 _ ?side1 ?side2 A19.out).mono ?_); (case side1 => repeat (first | exact (Kd.V_reads' HO153.out).2.2 | (with_reducible refine Kd.C_alloc ?_ _) | (with_reducible refine Kd.C_drewN ?_ _) | (with_reducible refine Kd.C_drew ?_))); (case side2 => exact (Kd.V_reads' HO153.out).2.1); rintro e w' ⟨rfl, ⟨nd, rfl⟩⟩; (try first | exact ⟨rfl, _, World.drewN_drewN _ _ _⟩ | exact ⟨rfl, _, Eq.trans (World.drewN_drewN _ _ _) (congrArg (World.drewN _) (Nat.add_assoc _ _ _))⟩); have q30 : ((wrap64 ((ji25) + (Go.bits .or .i64 (wrap64 (rd l0 (ji4))) (wrap64 ((wrap64 (rd l0 (ji7))) * 256))))) : Int) ≤ ((l0.length : Int) : Int) := of_decide_eq_true (by first | (with_reducible assumption) | assumption); obtain ⟨i030, hi030, _, hsz30, _⟩ := info_parts info5; have hroom30 : l0.length ≤ c0 := (Kd.V_reads' HO0.out).2.1; have hC30 : Kd.F (Kd.int .u8) _ _ (some ad146) l0.length l0 := (Kd.V_at (base := w.heap.size) HO0.out).2.2; have ql30 : ((ji4) : Int) ≤ ((wrap64 ((ji25) + (Go.bits .or .i64 (wrap64 (rd l0 (ji4))) (wrap64 ((wrap64 (rd l0 (ji7))) * 256))))) : Int) := of_decide_eq_true (by first | (with_reducible assumption) | assumption); have q030 : (0 : Int) ≤ ((ji4) : Int) := of_decide_eq_true (by first | (with_reducible assumption) | assumption); have hcut30 := cut_mid (P := Try.prog) 41 5 .i64 .i64 Try.underlying41 hi030 1 hsz30 (some ad146) l0.length c0 (ji4) (wrap64 ((ji25) + (Go.bits .or .i64 (wrap64 (rd l0 (ji4))) (wrap64 ((wrap64 (rd l0 (ji7))) * 256))))) q030 ql30 q30 hroom30; have hr30 := Kd.F_mid (lo := ((ji4) : Int).toNat) (hi := ((wrap64 ((ji25) + (Go.bits .or .i64 (wrap64 (rd l0 (ji4))) (wrap64 ((wrap64 (rd l0 (ji7))) * 256))))) : Int).toNat) (c := c0) hC30 (by omega) (by omega) hroom30; obtain ⟨A30, hA30⟩ : ∃ A1, A1 = (if c0 = ((ji4) : Int).toNat then (some ad146) else ((some ad146) : Option Addr).map (·.add (((ji4) : Int).toNat * 1))) := ⟨_, rfl⟩; obtain ⟨c30, hc30⟩ : ∃ c1, c1 = c0 - ((ji4) : Int).toNat := ⟨_, rfl⟩; have hy30 : y155.length = ((wrap64 ((ji25) + (Go.bits .or .i64 (wrap64 (rd l0 (ji4))) (wrap64 ((wrap64 (rd l0 (ji7))) * 256))))) : Int).toNat - ((ji4) : Int).toNat := (by rw [Ny155.out, List.length_drop, List.length_take] <;> omega); rw [show ((l0).take ((wrap64 ((ji25) + (Go.bits .or .i64 (wrap64 (rd l0 (ji4))) (wrap64 ((wrap64 (rd l0 (ji7))) * 256))))) : Int).toNat).drop ((ji4) : Int).toNat = y155 from Ny155.out.symm] at hr30; replace hr30 : Kd.F (Kd.int .u8) _ _ A30 y155.length y155 := (by rw [hA30]; exact hr30); rw [← hy30, ← hA30, ← hc30] at hcut30; have HO159 := Aside0.mk (show Kd.V (Kd.int .u8) 5 _ w.heap.size _ (.slice A30 y155.length c30) y155 from Kd.V_mk (by rw [hy30, hc30]; exact Nat.sub_le_sub_right (Nat.le_trans (by omega) hroom30) _) hr30); have HC159 := Aside0.mk (show y155.length ≤ c30 from by rw [hy30, hc30]; exact Nat.sub_le_sub_right (Nat.le_trans (by omega) hroom30) _); clear hr30 hC30 hroom30 hi030 hsz30 hc30; have KY30 := Aside0.mk hy30; have KA30 := Aside0.mk hA30; clear hy30 hA30; replace q30 := eq_true q30) | (go_at_call 58; (with_reducible refine (crc_Sum.calls k _ _ y155 t160 _ ?side1 ?side2 A23.out).mono ?_); (case side1 => repeat (first | exact (Kd.V_reads' HO159.out).2.2 | (with_reducible refine Kd.C_alloc ?_ _) | (with_reducible refine Kd.C_drewN ?_ _) | (with_reducible refine Kd.C_drew ?_))); (case side2 => exact (Kd.V_reads' HO159.out).2.1); rintro e w' ⟨rfl, ⟨nd, rfl⟩⟩; (try first | exact ⟨rfl, _, World.drewN_drewN _ _ _⟩ | exact ⟨rfl, _, Eq.trans (World.drewN_drewN _ _ _) (congrArg (World.drewN _) (Nat.add_assoc _ _ _))⟩); have q31 : ((wrap64 ((ji25) + (Go.bits .or .i64 (wrap64 (rd l0 (ji4))) (wrap64 ((wrap64 (rd l0 (ji7))) * 256))))) : Int) ≤ ((l0.length : Int) : Int) := of_decide_eq_true (by first | (with_reducible assumption) | assumption); obtain ⟨i031, hi031, _, hsz31, _⟩ := info_parts info5; have hroom31 : l0.length ≤ c0 := (Kd.V_reads' HO0.out).2.1; have hC31 : Kd.F (Kd.int .u8) _ _ (some ad146) l0.length l0 := (Kd.V_at (base := w.heap.size) HO0.out).2.2; have ql31 : ((ji25) : Int) ≤ ((wrap64 ((ji25) + (Go.bits .or .i64 (wrap64 (rd l0 (ji4))) (wrap64 ((wrap64 (rd l0 (ji7))) * 256))))) : Int) := of_decide_eq_true (by first | (with_reducible assumption) | assumption); have q031 : (0 : Int) ≤ ((ji25) : Int) := of_decide_eq_true (by first | (with_reducible assumption) | assumption); have hcut31 := cut_mid (P := Try.prog) 41 5 .i64 .i64 Try.underlying41 hi031 1 hsz31 (some ad146) l0.length c0 (ji25) (wrap64 ((ji25) + (Go.bits .or .i64 (wrap64 (rd l0 (ji4))) (wrap64 ((wrap64 (rd l0 (ji7))) * 256))))) q031 ql31 q31 hroom31; have hr31 := Kd.F_mid (lo := ((ji25) : Int).toNat) (hi := ((wrap64 ((ji25) + (Go.bits .or .i64 (wrap64 (rd l0 (ji4))) (wrap64 ((wrap64 (rd l0 (ji7))) * 256))))) : Int).toNat) (c := c0) hC31 (by omega) (by omega) hroom31; obtain ⟨A31, hA31⟩ : ∃ A1, A1 = (if c0 = ((ji25) : Int).toNat then (some ad146) else ((some ad146) : Option Addr).map (·.add (((ji25) : Int).toNat * 1))) := ⟨_, rfl⟩; obtain ⟨c31, hc31⟩ : ∃ c1, c1 = c0 - ((ji25) : Int).toNat := ⟨_, rfl⟩; have hy31 : y161.length = ((wrap64 ((ji25) + (Go.bits .or .i64 (wrap64 (rd l0 (ji4))) (wrap64 ((wrap64 (rd l0 (ji7))) * 256))))) : Int).toNat - ((ji25) : Int).toNat := (by rw [Ny161.out, List.length_drop, List.length_take] <;> omega); rw [show ((l0).take ((wrap64 ((ji25) + (Go.bits .or .i64 (wrap64 (rd l0 (ji4))) (wrap64 ((wrap64 (rd l0 (ji7))) * 256))))) : Int).toNat).drop ((ji25) : Int).toNat = y161 from Ny161.out.symm] at hr31; replace hr31 : Kd.F (Kd.int .u8) _ _ A31 y161.length y161 := (by rw [hA31]; exact hr31); rw [← hy31, ← hA31, ← hc31] at hcut31; have HO165 := Aside0.mk (show Kd.V (Kd.int .u8) 5 _ w.heap.size _ (.slice A31 y161.length c31) y161 from Kd.V_mk (by rw [hy31, hc31]; exact Nat.sub_le_sub_right (Nat.le_trans (by omega) hroom31) _) hr31); have HC165 := Aside0.mk (show y161.length ≤ c31 from by rw [hy31, hc31]; exact Nat.sub_le_sub_right (Nat.le_trans (by omega) hroom31) _); clear hr31 hC31 hroom31 hi031 hsz31 hc31; have KY31 := Aside0.mk hy31; have KA31 := Aside0.mk hA31; clear hy31 hA31; replace q31 := eq_true q31)); try go_wp2_with (first | (go_at_call 78; (with_reducible refine (varint_Get32.calls k _ _ y149 t154 _ ?side1 ?side2 A19.out).mono ?_); (case side1 => repeat (first | exact (Kd.V_reads' HO153.out).2.2 | (with_reducible refine Kd.C_alloc ?_ _) | (with_reducible refine Kd.C_drewN ?_ _) | (with_reducible refine Kd.C_drew ?_))); (case side2 => exact (Kd.V_reads' HO153.out).2.1); rintro e w' ⟨rfl, ⟨nd, rfl⟩⟩; (try first | exact ⟨rfl, _, World.drewN_drewN _ _ _⟩ | exact ⟨rfl, _, Eq.trans (World.drewN_drewN _ _ _) (congrArg (World.drewN _) (Nat.add_assoc _ _ _))⟩); have q30 : ((wrap64 ((ji25) + (Go.bits .or .i64 (wrap64 (rd l0 (ji4))) (wrap64 ((wrap64 (rd l0 (ji7))) * 256))))) : Int) ≤ ((l0.length : Int) : Int) := of_decide_eq_true (by first | (with_reducible assumption) | assumption); obtain ⟨i030, hi030, _, hsz30, _⟩ := info_parts info5; have hroom30 : l0.length ≤ c0 := (Kd.V_reads' HO0.out).2.1; have hC30 : Kd.F (Kd.int .u8) _ _ (some ad146) l0.length l0 := (Kd.V_at (base := w.heap.size) HO0.out).2.2; have ql30 : ((ji4) : Int) ≤ ((wrap64 ((ji25) + (Go.bits .or .i64 (wrap64 (rd l0 (ji4))) (wrap64 ((wrap64 (rd l0 (ji7))) * 256))))) : Int) := of_decide_eq_true (by first | (with_reducible assumption) | assumption); have q030 : (0 : Int) ≤ ((ji4) : Int) := of_decide_eq_true (by first | (with_reducible assumption) | assumption); have hcut30 := cut_mid (P := Try.prog) 41 5 .i64 .i64 Try.underlying41 hi030 1 hsz30 (some ad146) l0.length c0 (ji4) (wrap64 ((ji25) + (Go.bits .or .i64 (wrap64 (rd l0 (ji4))) (wrap64 ((wrap64 (rd l0 (ji7))) * 256))))) q030 ql30 q30 hroom30; have hr30 := Kd.F_mid (lo := ((ji4) : Int).toNat) (hi := ((wrap64 ((ji25) + (Go.bits .or .i64 (wrap64 (rd l0 (ji4))) (wrap64 ((wrap64 (rd l0 (ji7))) * 256))))) : Int).toNat) (c := c0) hC30 (by omega) (by omega) hroom30; obtain ⟨A30, hA30⟩ : ∃ A1, A1 = (if c0 = ((ji4) : Int).toNat then (some ad146) else ((some ad146) : Option Addr).map (·.add (((ji4) : Int).toNat * 1))) := ⟨_, rfl⟩; obtain ⟨c30, hc30⟩ : ∃ c1, c1 = c0 - ((ji4) : Int).toNat := ⟨_, rfl⟩; have hy30 : y155.length = ((wrap64 ((ji25) + (Go.bits .or .i64 (wrap64 (rd l0 (ji4))) (wrap64 ((wrap64 (rd l0 (ji7))) * 256))))) : Int).toNat - ((ji4) : Int).toNat := (by rw [Ny155.out, List.length_drop, List.length_take] <;> omega); rw [show ((l0).take ((wrap64 ((ji25) + (Go.bits .or .i64 (wrap64 (rd l0 (ji4))) (wrap64 ((wrap64 (rd l0 (ji7))) * 256))))) : Int).toNat).drop ((ji4) : Int).toNat = y155 from Ny155.out.symm] at hr30; replace hr30 : Kd.F (Kd.int .u8) _ _ A30 y155.length y155 := (by rw [hA30]; exact hr30); rw [← hy30, ← hA30, ← hc30] at hcut30; have HO159 := Aside0.mk (show Kd.V (Kd.int .u8) 5 _ w.heap.size _ (.slice A30 y155.length c30) y155 from Kd.V_mk (by rw [hy30, hc30]; exact Nat.sub_le_sub_right (Nat.le_trans (by omega) hroom30) _) hr30); have HC159 := Aside0.mk (show y155.length ≤ c30 from by rw [hy30, hc30]; exact Nat.sub_le_sub_right (Nat.le_trans (by omega) hroom30) _); clear hr30 hC30 hroom30 hi030 hsz30 hc30; have KY30 := Aside0.mk hy30; have KA30 := Aside0.mk hA30; clear hy30 hA30; replace q30 := eq_true q30) | (go_at_call 58; (with_reducible refine (crc_Sum.calls k _ _ y155 t160 _ ?side1 ?side2 A23.out).mono ?_); (case side1 => repeat (first | exact (Kd.V_reads' HO159.out).2.2 | (with_reducible refine Kd.C_alloc ?_ _) | (with_reducible refine Kd.C_drewN ?_ _) | (with_reducible refine Kd.C_drew ?_))); (case side2 => exact (Kd.V_reads' HO159.out).2.1); rintro e w' ⟨rfl, ⟨nd, rfl⟩⟩; (try first | exact ⟨rfl, _, World.drewN_drewN _ _ _⟩ | exact ⟨rfl, _, Eq.trans (World.drewN_drewN _ _ _) (congrArg (World.drewN _) (Nat.add_assoc _ _ _))⟩); have q31 : ((wrap64 ((ji25) + (Go.bits .or .i64 (wrap64 (rd l0 (ji4))) (wrap64 ((wrap64 (rd l0 (ji7))) * 256))))) : Int) ≤ ((l0.length : Int) : Int) := of_decide_eq_true (by first | (with_reducible assumption) | assumption); obtain ⟨i031, hi031, _, hsz31, _⟩ := info_parts info5; have hroom31 : l0.length ≤ c0 := (Kd.V_reads' HO0.out).2.1; have hC31 : Kd.F (Kd.int .u8) _ _ (some ad146) l0.length l0 := (Kd.V_at (base := w.heap.size) HO0.out).2.2; have ql31 : ((ji25) : Int) ≤ ((wrap64 ((ji25) + (Go.bits .or .i64 (wrap64 (rd l0 (ji4))) (wrap64 ((wrap64 (rd l0 (ji7))) * 256))))) : Int) := of_decide_eq_true (by first | (with_reducible assumption) | assumption); have q031 : (0 : Int) ≤ ((ji25) : Int) := of_decide_eq_true (by first | (with_reducible assumption) | assumption); have hcut31 := cut_mid (P := Try.prog) 41 5 .i64 .i64 Try.underlying41 hi031 1 hsz31 (some ad146) l0.length c0 (ji25) (wrap64 ((ji25) + (Go.bits .or .i64 (wrap64 (rd l0 (ji4))) (wrap64 ((wrap64 (rd l0 (ji7))) * 256))))) q031 ql31 q31 hroom31; have hr31 := Kd.F_mid (lo := ((ji25) : Int).toNat) (hi := ((wrap64 ((ji25) + (Go.bits .or .i64 (wrap64 (rd l0 (ji4))) (wrap64 ((wrap64 (rd l0 (ji7))) * 256))))) : Int).toNat) (c := c0) hC31 (by omega) (by omega) hroom31; obtain ⟨A31, hA31⟩ : ∃ A1, A1 = (if c0 = ((ji25) : Int).toNat then (some ad146) else ((some ad146) : Option Addr).map (·.add (((ji25) : Int).toNat * 1))) := ⟨_, rfl⟩; obtain ⟨c31, hc31⟩ : ∃ c1, c1 = c0 - ((ji25) : Int).toNat := ⟨_, rfl⟩; have hy31 : y161.length = ((wrap64 ((ji25) + (Go.bits .or .i64 (wrap64 (rd l0 (ji4))) (wrap64 ((wrap64 (rd l0 (ji7))) * 256))))) : Int).toNat - ((ji25) : Int).toNat := (by rw [Ny161.out, List.length_drop, List.length_take] <;> omega); rw [show ((l0).take ((wrap64 ((ji25) + (Go.bits .or .i64 (wrap64 (rd l0 (ji4))) (wrap64 ((wrap64 (rd l0 (ji7))) * 256))))) : Int).toNat).drop ((ji25) : Int).toNat = y161 from Ny161.out.symm] at hr31; replace hr31 : Kd.F (Kd.int .u8) _ _ A31 y161.length y161 := (by rw [hA31]; exact hr31); rw [← hy31, ← hA31, ← hc31] at hcut31; have HO165 := Aside0.mk (show Kd.V (Kd.int .u8) 5 _ w.heap.size _ (.slice A31 y161.length c31) y161 from Kd.V_mk (by rw [hy31, hc31]; exact Nat.sub_le_sub_right (Nat.le_trans (by omega) hroom31) _) hr31); have HC165 := Aside0.mk (show y161.length ≤ c31 from by rw [hy31, hc31]; exact Nat.sub_le_sub_right (Nat.le_trans (by omega) hroom31) _); clear hr31 hC31 hroom31 hi031 hsz31 hc31; have KY31 := Aside0.mk hy31; have KA31 := Aside0.mk hA31; clear hy31 hA31; replace q31 := eq_true q31)))
                                      go_ret3
                                      exact ⟨_, by first | rfl | (simp [errW_none, errW_some] <;> rfl) | (simp only [← hji4, ← hji7, ← hji12, ← hji25]; first | rfl | (simp [errW_none, errW_some] <;> rfl)) | (simp [*, errW_none, errW_some] <;> rfl), by (with_reducible repeat (first | apply Kd.V_alloc | apply Kd.V_drewN | apply Kd.V_drew)); exact HO165.out, by repeat (first | (with_reducible first | exact HB.out | apply below_alloc | apply pw_below_drewN | apply below_drew1) | exact HB.out)⟩
                                    · rw [if_neg c27] at H
                                      exact absurd H (by simp)
                                  · rw [if_neg c26] at H
                                    exact absurd H (by simp)
                                · rw [if_neg c24] at H
                                  have c24b0 : (t154 == t160) = false := beq_eq_false_iff_ne.mpr c24
                                  have c24b1 : (t154 != t160) = true := bne_iff_ne.mpr c24
                                  simp only [Option.some.injEq, Prod.mk.injEq] at H
                                  obtain ⟨rfl, rfl, rfl⟩ := H
                                  have p146 : 0 ≤ ((ji4) : Int) := of_decide_eq_true (by first | (with_reducible assumption) | assumption)
                                  have q146 : (ji4) < (l0.length : Int) := of_decide_eq_true (by first | (with_reducible assumption) | assumption)
                                  obtain ⟨ad146, e146, hx146_0⟩ := Kd.at_int (Kd.V_reads' HO0.out).2.2 (ji4) p146 q146
                                  cases e146
                                  replace p146 := eq_true p146
                                  replace q146 := eq_true q146
                                  have p147 : 0 ≤ ((ji7) : Int) := of_decide_eq_true (by first | (with_reducible assumption) | assumption)
                                  have q147 : (ji7) < (l0.length : Int) := of_decide_eq_true (by first | (with_reducible assumption) | assumption)
                                  obtain ⟨ad147, e147, hx147_0⟩ := Kd.at_int (Kd.V_reads' HO0.out).2.2 (ji7) p147 q147
                                  obtain rfl : ad146 = ad147 := (by injection e147)
                                  replace p147 := eq_true p147
                                  replace q147 := eq_true q147
                                  have p148 : 0 ≤ ((ji12) : Int) := of_decide_eq_true (by first | (with_reducible assumption) | assumption)
                                  have q148 : (ji12) < (l0.length : Int) := of_decide_eq_true (by first | (with_reducible assumption) | assumption)
                                  obtain ⟨ad148, e148, hx148_0⟩ := Kd.at_int (Kd.V_reads' HO0.out).2.2 (ji12) p148 q148
                                  obtain rfl : ad146 = ad148 := (by injection e148)
                                  replace p148 := eq_true p148
                                  replace q148 := eq_true q148
                                  have q32 : (a1 : Int) ≤ ((l0.length : Int) : Int) := of_decide_eq_true (by first | (with_reducible assumption) | assumption)
                                  obtain ⟨i032, hi032, _, hsz32, _⟩ := info_parts info5
                                  have hroom32 : l0.length ≤ c0 := (Kd.V_reads' HO0.out).2.1
                                  have hC32 : Kd.F (Kd.int .u8) _ _ (some ad146) l0.length l0 := (Kd.V_at (base := w.heap.size) HO0.out).2.2
                                  have q032 : (0 : Int) ≤ (a1 : Int) := of_decide_eq_true (by first | (with_reducible assumption) | assumption)
                                  have hcut32 := cut_from (P := Try.prog) 41 5 .i64 Try.underlying41 hi032 1 hsz32 (some ad146) l0.length c0 a1 q032 q32
                                  have hr32 := Kd.F_cut (m := (a1 : Int).toNat) (c := c0) hC32 (by omega) hroom32
                                  obtain ⟨A32, hA32⟩ : ∃ A1, A1 = (if c0 = (a1 : Int).toNat then (some ad146) else ((some ad146) : Option Addr).map (·.add ((a1 : Int).toNat * 1))) := ⟨_, rfl⟩
                                  obtain ⟨c32, hc32⟩ : ∃ c1, c1 = c0 - (a1 : Int).toNat := ⟨_, rfl⟩
                                  have hy32 : y149.length = l0.length - (a1 : Int).toNat := (by rw [Ny149.out, List.length_drop] <;> omega)
                                  rw [show (l0).drop (a1 : Int).toNat = y149 from Ny149.out.symm] at hr32
                                  replace hr32 : Kd.F (Kd.int .u8) _ _ A32 y149.length y149 := (by rw [hA32]; exact hr32)
                                  rw [← hy32, ← hA32, ← hc32] at hcut32
                                  have HO153 := Aside0.mk (show Kd.V (Kd.int .u8) 5 _ w.heap.size _ (.slice A32 y149.length c32) y149 from Kd.V_mk (by rw [hy32, hc32]; exact Nat.sub_le_sub_right hroom32 _) hr32)
                                  have HC153 := Aside0.mk (show y149.length ≤ c32 from by rw [hy32, hc32]; exact Nat.sub_le_sub_right hroom32 _)
                                  clear hr32 hC32 hroom32 hi032 hsz32 hc32
                                  have KY32 := Aside0.mk hy32
                                  have KA32 := Aside0.mk hA32
                                  clear hy32 hA32
                                  replace q32 := eq_true q32
                                  (try (have e_ : wrap64 ((Int.tmod a1 256) + 7) = a1 % 256 + 7 := (by rw [Int.tmod_eq_emod_of_nonneg (of_eq_true (by assumption))]; unfold wrap64; omega); rw [e_] at c10b0; clear e_))
                                  go_enter Try.func72, Try.ntmps72
                                  go_wp2_with (first | (go_at_call 78; (with_reducible refine (varint_Get32.calls k _ _ y149 t154 _ ?side1 ?side2 A19.out).mono ?_); (case side1 => repeat (first | exact (Kd.V_reads' HO153.out).2.2 | (with_reducible refine Kd.C_alloc ?_ _) | (with_reducible refine Kd.C_drewN ?_ _) | (with_reducible refine Kd.C_drew ?_))); (case side2 => exact (Kd.V_reads' HO153.out).2.1); rintro e w' ⟨rfl, ⟨nd, rfl⟩⟩; (try first | exact ⟨rfl, _, World.drewN_drewN _ _ _⟩ | exact ⟨rfl, _, Eq.trans (World.drewN_drewN _ _ _) (congrArg (World.drewN _) (Nat.add_assoc _ _ _))⟩); have q33 : ((wrap64 ((wrap64 (a1 + 7)) + (Go.bits .or .i64 (wrap64 (rd l0 (ji4))) (wrap64 ((wrap64 (rd l0 (ji7))) * 256))))) : Int) ≤ ((l0.length : Int) : Int) := of_decide_eq_true (by first | (with_reducible assumption) | assumption); obtain ⟨i033, hi033, _, hsz33, _⟩ := info_parts info5; have hroom33 : l0.length ≤ c0 := (Kd.V_reads' HO0.out).2.1; have hC33 : Kd.F (Kd.int .u8) _ _ (some ad146) l0.length l0 := (Kd.V_at (base := w.heap.size) HO0.out).2.2; have ql33 : ((ji4) : Int) ≤ ((wrap64 ((wrap64 (a1 + 7)) + (Go.bits .or .i64 (wrap64 (rd l0 (ji4))) (wrap64 ((wrap64 (rd l0 (ji7))) * 256))))) : Int) := of_decide_eq_true (by first | (with_reducible assumption) | assumption); have q033 : (0 : Int) ≤ ((ji4) : Int) := of_decide_eq_true (by first | (with_reducible assumption) | assumption); have hcut33 := cut_mid (P := Try.prog) 41 5 .i64 .i64 Try.underlying41 hi033 1 hsz33 (some ad146) l0.length c0 (ji4) (wrap64 ((wrap64 (a1 + 7)) + (Go.bits .or .i64 (wrap64 (rd l0 (ji4))) (wrap64 ((wrap64 (rd l0 (ji7))) * 256))))) q033 ql33 q33 hroom33; have hr33 := Kd.F_mid (lo := ((ji4) : Int).toNat) (hi := ((wrap64 ((wrap64 (a1 + 7)) + (Go.bits .or .i64 (wrap64 (rd l0 (ji4))) (wrap64 ((wrap64 (rd l0 (ji7))) * 256))))) : Int).toNat) (c := c0) hC33 (by omega) (by omega) hroom33; obtain ⟨A33, hA33⟩ : ∃ A1, A1 = (if c0 = ((ji4) : Int).toNat then (some ad146) else ((some ad146) : Option Addr).map (·.add (((ji4) : Int).toNat * 1))) := ⟨_, rfl⟩; obtain ⟨c33, hc33⟩ : ∃ c1, c1 = c0 - ((ji4) : Int).toNat := ⟨_, rfl⟩; have hy33 : y155.length = ((wrap64 ((wrap64 (a1 + 7)) + (Go.bits .or .i64 (wrap64 (rd l0 (ji4))) (wrap64 ((wrap64 (rd l0 (ji7))) * 256))))) : Int).toNat - ((ji4) : Int).toNat := (by rw [Ny155.out, List.length_drop, List.length_take] <;> omega); rw [show ((l0).take ((wrap64 ((wrap64 (a1 + 7)) + (Go.bits .or .i64 (wrap64 (rd l0 (ji4))) (wrap64 ((wrap64 (rd l0 (ji7))) * 256))))) : Int).toNat).drop ((ji4) : Int).toNat = y155 from Ny155.out.symm] at hr33; replace hr33 : Kd.F (Kd.int .u8) _ _ A33 y155.length y155 := (by rw [hA33]; exact hr33); rw [← hy33, ← hA33, ← hc33] at hcut33; have HO159 := Aside0.mk (show Kd.V (Kd.int .u8) 5 _ w.heap.size _ (.slice A33 y155.length c33) y155 from Kd.V_mk (by rw [hy33, hc33]; exact Nat.sub_le_sub_right (Nat.le_trans (by omega) hroom33) _) hr33); have HC159 := Aside0.mk (show y155.length ≤ c33 from by rw [hy33, hc33]; exact Nat.sub_le_sub_right (Nat.le_trans (by omega) hroom33) _); clear hr33 hC33 hroom33 hi033 hsz33 hc33; have KY33 := Aside0.mk hy33; have KA33 := Aside0.mk hA33; clear hy33 hA33; replace q33 := eq_true q33) | (go_at_call 58; (with_reducible refine (crc_Sum.calls k _ _ y155 t160 _ ?side1 ?side2 A23.out).mono ?_); (case side1 => repeat (first | exact (Kd.V_reads' HO159.out).2.2 | (with_reducible refine Kd.C_alloc ?_ _) | (with_reducible refine Kd.C_drewN ?_ _) | (with_reducible refine Kd.C_drew ?_))); (case side2 => exact (Kd.V_reads' HO159.out).2.1); rintro e w' ⟨rfl, ⟨nd, rfl⟩⟩; (try first | exact ⟨rfl, _, World.drewN_drewN _ _ _⟩ | exact ⟨rfl, _, Eq.trans (World.drewN_drewN _ _ _) (congrArg (World.drewN _) (Nat.add_assoc _ _ _))⟩)))
                                  repeat (go_quiet (first | (go_at_call 78; (with_reducible refine (varint_Get32.calls k _ _ y149 t154 _ ?side1 ?side2 A19.out).mono ?_); (case side1 => repeat (first | exact (Kd.V_reads' HO153.out).2.2 | (with_reducible refine Kd.C_alloc ?_ _) | (with_reducible refine Kd.C_drewN ?_ _) | (with_reducible refine Kd.C_drew ?_))); (case side2 => exact (Kd.V_reads' HO153.out).2.1); rintro e w' ⟨rfl, ⟨nd, rfl⟩⟩; (try first | exact ⟨rfl, _, World.drewN_drewN _ _ _⟩ | exact ⟨rfl, _, Eq.trans (World.drewN_drewN _ _ _) (congrArg (World.drewN _) (Nat.add_assoc _ _ _))⟩); have q33 : ((wrap64 ((wrap64 (a1 + 7)) + (Go.bits .or .i64 (wrap64 (rd l0 (ji4))) (wrap64 ((wrap64 (rd l0 (ji7))) * 256))))) : Int) ≤ ((l0.length : Int) : Int) := of_decide_eq_true (by first | (with_reducible assumption) | assumption); obtain ⟨i033, hi033, _, hsz33, _⟩ := info_parts info5; have hroom33 : l0.length ≤ c0 := (Kd.V_reads' HO0.out).2.1; have hC33 : Kd.F (Kd.int .u8) _ _ (some ad146) l0.length l0 := (Kd.V_at (base := w.heap.size) HO0.out).2.2; have ql33 : ((ji4) : Int) ≤ ((wrap64 ((wrap64 (a1 + 7)) + (Go.bits .or .i64 (wrap64 (rd l0 (ji4))) (wrap64 ((wrap64 (rd l0 (ji7))) * 256))))) : Int) := of_decide_eq_true (by first | (with_reducible assumption) | assumption); have q033 : (0 : Int) ≤ ((ji4) : Int) := of_decide_eq_true (by first | (with_reducible assumption) | assumption); have hcut33 := cut_mid (P := Try.prog) 41 5 .i64 .i64 Try.underlying41 hi033 1 hsz33 (some ad146) l0.length c0 (ji4) (wrap64 ((wrap64 (a1 + 7)) + (Go.bits .or .i64 (wrap64 (rd l0 (ji4))) (wrap64 ((wrap64 (rd l0 (ji7))) * 256))))) q033 ql33 q33 hroom33; have hr33 := Kd.F_mid (lo := ((ji4) : Int).toNat) (hi := ((wrap64 ((wrap64 (a1 + 7)) + (Go.bits .or .i64 (wrap64 (rd l0 (ji4))) (wrap64 ((wrap64 (rd l0 (ji7))) * 256))))) : Int).toNat) (c := c0) hC33 (by omega) (by omega) hroom33; obtain ⟨A33, hA33⟩ : ∃ A1, A1 = (if c0 = ((ji4) : Int).toNat then (some ad146) else ((some ad146) : Option Addr).map (·.add (((ji4) : Int).toNat * 1))) := ⟨_, rfl⟩; obtain ⟨c33, hc33⟩ : ∃ c1, c1 = c0 - ((ji4) : Int).toNat := ⟨_, rfl⟩; have hy33 : y155.length = ((wrap64 ((wrap64 (a1 + 7)) + (Go.bits .or .i64 (wrap64 (rd l0 (ji4))) (wrap64 ((wrap64 (rd l0 (ji7))) * 256))))) : Int).toNat - ((ji4) : Int).toNat := (by rw [Ny155.out, List.length_drop, List.length_take] <;> omega); rw [show ((l0).take ((wrap64 ((wrap64 (a1 + 7)) + (Go.bits .or .i64 (wrap64 (rd l0 (ji4))) (wrap64 ((wrap64 (rd l0 (ji7))) * 256))))) : Int).toNat).drop ((ji4) : Int).toNat = y155 from Ny155.out.symm] at hr33; replace hr33 : Kd.F (Kd.int .u8) _ _ A33 y155.length y155 := (by rw [hA33]; exact hr33); rw [← hy33, ← hA33, ← hc33] at hcut33; have HO159 := Aside0.mk (show Kd.V (Kd.int .u8) 5 _ w.heap.size _ (.slice A33 y155.length c33) y155 from Kd.V_mk (by rw [hy33, hc33]; exact Nat.sub_le_sub_right (Nat.le_trans (by omega) hroom33) _) hr33); have HC159 := Aside0.mk (show y155.length ≤ c33 from by rw [hy33, hc33]; exact Nat.sub_le_sub_right (Nat.le_trans (by omega) hroom33) _); clear hr33 hC33 hroom33 hi033 hsz33 hc33; have KY33 := Aside0.mk hy33; have KA33 := Aside0.mk hA33; clear hy33 hA33; replace q33 := eq_true q33) | (go_at_call 58; (with_reducible refine (crc_Sum.calls k _ _ y155 t160 _ ?side1 ?side2 A23.out).mono ?_); (case side1 => repeat (first | exact (Kd.V_reads' HO159.out).2.2 | (with_reducible refine Kd.C_alloc ?_ _) | (with_reducible refine Kd.C_drewN ?_ _) | (with_reducible refine Kd.C_drew ?_))); (case side2 => exact (Kd.V_reads' HO159.out).2.1); rintro e w' ⟨rfl, ⟨nd, rfl⟩⟩; (try first | exact ⟨rfl, _, World.drewN_drewN _ _ _⟩ | exact ⟨rfl, _, Eq.trans (World.drewN_drewN _ _ _) (congrArg (World.drewN _) (Nat.add_assoc _ _ _))⟩))); try go_wp2_with (first | (go_at_call 78; (with_reducible refine (varint_Get32.calls k _ _ y149 t154 _ ?side1 ?side2 A19.out).mono ?_); (case side1 => repeat (first | exact (Kd.V_reads' HO153.out).2.2 | (with_reducible refine Kd.C_alloc ?_ _) | (with_reducible refine Kd.C_drewN ?_ _) | (with_reducible refine Kd.C_drew ?_))); (case side2 => exact (Kd.V_reads' HO153.out).2.1); rintro e w' ⟨rfl, ⟨nd, rfl⟩⟩; (try first | exact ⟨rfl, _, World.drewN_drewN _ _ _⟩ | exact ⟨rfl, _, Eq.trans (World.drewN_drewN _ _ _) (congrArg (World.drewN _) (Nat.add_assoc _ _ _))⟩); have q33 : ((wrap64 ((wrap64 (a1 + 7)) + (Go.bits .or .i64 (wrap64 (rd l0 (ji4))) (wrap64 ((wrap64 (rd l0 (ji7))) * 256))))) : Int) ≤ ((l0.length : Int) : Int) := of_decide_eq_true (by first | (with_reducible assumption) | assumption); obtain ⟨i033, hi033, _, hsz33, _⟩ := info_parts info5; have hroom33 : l0.length ≤ c0 := (Kd.V_reads' HO0.out).2.1; have hC33 : Kd.F (Kd.int .u8) _ _ (some ad146) l0.length l0 := (Kd.V_at (base := w.heap.size) HO0.out).2.2; have ql33 : ((ji4) : Int) ≤ ((wrap64 ((wrap64 (a1 + 7)) + (Go.bits .or .i64 (wrap64 (rd l0 (ji4))) (wrap64 ((wrap64 (rd l0 (ji7))) * 256))))) : Int) := of_decide_eq_true (by first | (with_reducible assumption) | assumption); have q033 : (0 : Int) ≤ ((ji4) : Int) := of_decide_eq_true (by first | (with_reducible assumption) | assumption); have hcut33 := cut_mid (P := Try.prog) 41 5 .i64 .i64 Try.underlying41 hi033 1 hsz33 (some ad146) l0.length c0 (ji4) (wrap64 ((wrap64 (a1 + 7)) + (Go.bits .or .i64 (wrap64 (rd l0 (ji4))) (wrap64 ((wrap64 (rd l0 (ji7))) * 256))))) q033 ql33 q33 hroom33; have hr33 := Kd.F_mid (lo := ((ji4) : Int).toNat) (hi := ((wrap64 ((wrap64 (a1 + 7)) + (Go.bits .or .i64 (wrap64 (rd l0 (ji4))) (wrap64 ((wrap64 (rd l0 (ji7))) * 256))))) : Int).toNat) (c := c0) hC33 (by omega) (by omega) hroom33; obtain ⟨A33, hA33⟩ : ∃ A1, A1 = (if c0 = ((ji4) : Int).toNat then (some ad146) else ((some ad146) : Option Addr).map (·.add (((ji4) : Int).toNat * 1))) := ⟨_, rfl⟩; obtain ⟨c33, hc33⟩ : ∃ c1, c1 = c0 - ((ji4) : Int).toNat := ⟨_, rfl⟩; have hy33 : y155.length = ((wrap64 ((wrap64 (a1 + 7)) + (Go.bits .or .i64 (wrap64 (rd l0 (ji4))) (wrap64 ((wrap64 (rd l0 (ji7))) * 256))))) : Int).toNat - ((ji4) : Int).toNat := (by rw [Ny155.out, List.length_drop, List.length_take] <;> omega); rw [show ((l0).take ((wrap64 ((wrap64 (a1 + 7)) + (Go.bits .or .i64 (wrap64 (rd l0 (ji4))) (wrap64 ((wrap64 (rd l0 (ji7))) * 256))))) : Int).toNat).drop ((ji4) : Int).toNat = y155 from Ny155.out.symm] at hr33; replace hr33 : Kd.F (Kd.int .u8) _ _ A33 y155.length y155 := (by rw [hA33]; exact hr33); rw [← hy33, ← hA33, ← hc33] at hcut33; have HO159 := Aside0.mk (show Kd.V (Kd.int .u8) 5 _ w.heap.size _ (.slice A33 y155.length c33) y155 from Kd.V_mk (by rw [hy33, hc33]; exact Nat.sub_le_sub_right (Nat.le_trans (by omega) hroom33) _) hr33); have HC159 := Aside0.mk (show y155.length ≤ c33 from by rw [hy33, hc33]; exact Nat.sub_le_sub_right (Nat.le_trans (by omega) hroom33) _); clear hr33 hC33 hroom33 hi033 hsz33 hc33; have KY33 := Aside0.mk hy33; have KA33 := Aside0.mk hA33; clear hy33 hA33; replace q33 := eq_true q33) | (go_at_call 58; (with_reducible refine (crc_Sum.calls k _ _ y155 t160 _ ?side1 ?side2 A23.out).mono ?_); (case side1 => repeat (first | exact (Kd.V_reads' HO159.out).2.2 | (with_reducible refine Kd.C_alloc ?_ _) | (with_reducible refine Kd.C_drewN ?_ _) | (with_reducible refine Kd.C_drew ?_))); (case side2 => exact (Kd.V_reads' HO159.out).2.1); rintro e w' ⟨rfl, ⟨nd, rfl⟩⟩; (try first | exact ⟨rfl, _, World.drewN_drewN _ _ _⟩ | exact ⟨rfl, _, Eq.trans (World.drewN_drewN _ _ _) (congrArg (World.drewN _) (Nat.add_assoc _ _ _))⟩))))
                                  go_ret3
                                  exact ⟨_, by first | rfl | (simp [errW_none, errW_some] <;> rfl) | (simp only [← hji4, ← hji7, ← hji12]; first | rfl | (simp [errW_none, errW_some] <;> rfl)) | (simp [*, errW_none, errW_some] <;> rfl), (Kd.V_nil _ _ _ _ _), by repeat (first | (with_reducible first | exact HB.out | apply below_alloc | apply pw_below_drewN | apply below_drew1) | exact HB.out)⟩
                              · rw [if_neg c22] at H
                                exact absurd H (by simp)
                            · rw [if_neg c21] at H
                              exact absurd H (by simp)
                          · rw [if_neg c18] at H
                            exact absurd H (by simp)
                        · rw [if_neg c17] at H
                          exact absurd H (by simp)
                  · rw [if_neg c14] at H
                    exact absurd H (by simp)
                · rw [if_neg c13] at H
                  exact absurd H (by simp)
          · rw [if_neg c9] at H
            exact absurd H (by simp)
        · rw [if_neg c8] at H
          exact absurd H (by simp)
      · rw [if_neg c6] at H
        exact absurd H (by simp)
    · rw [if_neg c5] at H
      exact absurd H (by simp)

/-! ### reclog_record: function 59 -/
mutual
def reclog_record.l0 : Nat → List Int → Int → List Int → Bool → Option (List Int × Int × Int)
  | 0, _, _, _, _ => none
  | k + 1, x0, x1, x7, x8 => (reclog_place.f x1).bind fun t169 => ((reclog_piece.f k x0 t169).bind fun bt170 => (if bt170.2.2 = 0 then (if bt170.1 = 1 then (reclog_record.j1 k x0 t169 x7 x8 bt170.1 bt170.2.1 true) else (reclog_record.j1 k x0 t169 x7 x8 bt170.1 bt170.2.1 (bt170.1 == 2))) else (some (([] : List Int), 0, bt170.2.2))))
def reclog_record.j1 : Nat → List Int → Int → List Int → Bool → Int → List Int → Bool → Option (List Int × Int × Int)
  | 0, _, _, _, _, _, _, _ => none
  | k + 1, x0, x1, x7, x8, x9, x10, x12 => if (x12 != x8) = true then (some (([] : List Int), 0, 2)) else (if x7.length + x10.length < 140737488355328 then ((some (x7 ++ x10 : List Int)).bind fun y175 => (if x9 = 1 then (some (y175, wrap64 (x1 + (wrap64 (7 + (x10.length : Int)))), 0)) else (if x9 = 4 then (some (y175, wrap64 (x1 + (wrap64 (7 + (x10.length : Int)))), 0)) else (reclog_record.l0 k x0 (wrap64 (x1 + (wrap64 (7 + (x10.length : Int))))) y175 false)))) else (none))
end
def reclog_record.f (k : Nat) (l0 : List Int) (a1 : Int) : Option (List Int × Int × Int) := reclog_record.l0 k l0 a1 (([] : List Int)) true
theorem reclog_record.mono_l : ∀ k, (∀ y0 y1 y2 y3, LeO (reclog_record.l0 k y0 y1 y2 y3) (reclog_record.l0 (k + 1) y0 y1 y2 y3)) ∧ (∀ y0 y1 y2 y3 y4 y5 y6, LeO (reclog_record.j1 k y0 y1 y2 y3 y4 y5 y6) (reclog_record.j1 (k + 1) y0 y1 y2 y3 y4 y5 y6))
  | 0 => ⟨fun _ _ _ _ r h => by simp [reclog_record.l0] at h, fun _ _ _ _ _ _ _ r h => by simp [reclog_record.j1] at h⟩
  | k + 1 => by
    obtain ⟨ih0, ih1⟩ := reclog_record.mono_l k
    refine ⟨?_, ?_⟩
    · intro y0 y1 y2 y3
      unfold reclog_record.l0
      repeat' first
      | (with_reducible exact ih0 _ _ _ _)
      | (with_reducible exact ih1 _ _ _ _ _ _ _)
      | (with_reducible exact reclog_piece.mono _ _ _)
      | (with_reducible exact LeO.refl _)
      | (with_reducible exact LeO.none _)
      | (with_reducible refine LeO.ite ?_ ?_)
      | (with_reducible refine LeO.bind ?_ (fun _ => ?_))
      | exact ih0 _ _ _ _
      | exact ih1 _ _ _ _ _ _ _
      | exact reclog_piece.mono _ _ _
      | exact LeO.none _
      | refine LeO.ite ?_ ?_
      | refine LeO.bind ?_ (fun _ => ?_)
    · intro y0 y1 y2 y3 y4 y5 y6
      unfold reclog_record.j1
      repeat' first
      | (with_reducible exact ih0 _ _ _ _)
      | (with_reducible exact ih1 _ _ _ _ _ _ _)
      | (with_reducible exact reclog_piece.mono _ _ _)
      | (with_reducible exact LeO.refl _)
      | (with_reducible exact LeO.none _)
      | (with_reducible refine LeO.ite ?_ ?_)
      | (with_reducible refine LeO.bind ?_ (fun _ => ?_))
      | exact ih0 _ _ _ _
      | exact ih1 _ _ _ _ _ _ _
      | exact reclog_piece.mono _ _ _
      | exact LeO.none _
      | refine LeO.ite ?_ ?_
      | refine LeO.bind ?_ (fun _ => ?_)
theorem reclog_record.mono : ∀ a0 a1 k, LeO (reclog_record.f k a0 a1) (reclog_record.f (k + 1) a0 a1) := by
  intro a0 a1 k
  obtain ⟨ih0, ih1⟩ := reclog_record.mono_l k
  unfold reclog_record.f
  repeat' first
      | (with_reducible exact ih0 _ _ _ _)
      | (with_reducible exact ih1 _ _ _ _ _ _ _)
      | (with_reducible exact reclog_piece.mono _ _ _)
      | (with_reducible exact LeO.refl _)
      | (with_reducible exact LeO.none _)
      | (with_reducible refine LeO.ite ?_ ?_)
      | (with_reducible refine LeO.bind ?_ (fun _ => ?_))
      | exact ih0 _ _ _ _
      | exact ih1 _ _ _ _ _ _ _
      | exact reclog_piece.mono _ _ _
      | exact LeO.none _
      | refine LeO.ite ?_ ?_
      | refine LeO.bind ?_ (fun _ => ?_)
set_option maxHeartbeats 8000000 in
set_option maxRecDepth 100000 in
theorem reclog_record.calls (k : Nat) (A0 : Option Addr) (c0 : Nat) (l0 : List Int) (a1 : Int) (r1 : List Int) (r2 : Int) (r3 : Int) (w : World) (hr0 : Kd.C (Kd.int .u8) w A0 l0.length l0) (hc0 : l0.length ≤ c0) (h : reclog_record.f k l0 a1 = some (r1, r2, r3)) :
    Calls Try.prog 59 #[.slice A0 l0.length c0, .int .i64 a1] w fun e w' => ∃ v0_ : Value, e = .returned (.tuple #[v0_, .int .i64 r2, .int .i64 r3]) ∧ Kd.R (Kd.int .u8) 5 w' w.heap.size (fun _ => True) v0_ r1 ∧ Below w.heap.size w w' := by
  have HR0 := Aside0.mk hr0
  have HC0 := Aside0.mk hc0
  clear hr0 hc0
  have HB := Aside0.mk (Below.refl w.heap.size w)
  have H : (reclog_record.l0 k l0 a1 (([] : List Int)) true) = some (r1, r2, r3) := h
  clear h
  obtain ⟨y166, hy166⟩ : ∃ y_ : List Int, y_ = (([] : List Int)) := ⟨_, rfl⟩
  replace H : (reclog_record.l0 k l0 a1 y166 true) = some (r1, r2, r3) := by first | (rw [hy166]; with_reducible exact H) | (have H2_ := (Option.bind_some _ _).symm.trans H; rw [hy166]; with_reducible exact H2_) | (have H2_ := (Option.bind_some _ _).symm.trans H; with_reducible exact H2_) | with_reducible exact H | (rw [hy166]; exact H) | exact H
  have Ny166 := Aside0.mk hy166
  clear hy166
  have H' := Aside0.mk H
  clear H
  go_enter Try.func59, Try.ntmps59
  go_wp2_with (first | ((with_reducible refine gate_dst (N := 13) rfl ?_); refine Kd.R_lit (Kd.int .u8) _ 5 ?hg (N := 13) ?hd (xs := ([] : List Int)) (inner := []) (ok := fun _ => True) (okp := fun _ => True) ?hr ?hp (fun _ hk => hk) trivial (Below.refl _ _) (Nat.le_refl _) (by simp) ?_; (case hd => rfl); (case hg => rfl); (case hr => first | (go_simp; done) | (go_simp; rfl)); (case hp => exact (Reps.none _ _)); intro v167 w3 ho4 hb hg_ hnew_; clear hg_ hnew_; (first | rw [← Ny166.out] at ho4 | (simp only [Int.reduceToNat] at ho4; rw [← Ny166.out] at ho4)); have n0_ := Aside0.mk (Kd.R_lower ho4 (below_size (by repeat (first | (with_reducible first | exact HB.out | apply below_alloc | apply pw_below_drewN | apply below_drew1) | exact HB.out)))); have n1_ := Aside0.mk (below_step (by repeat (first | (with_reducible first | exact HB.out | apply below_alloc | apply pw_below_drewN | apply below_drew1) | exact HB.out)) hb); clear HB; have HO168 := n0_; have HB := n1_; clear n0_ n1_; clear hb ho4))
  go_loopg [1, 7, 8] k (fun kq v1 v7 v8 w' => ∃ (x1_1 : Int) (x7_1 : List Int) (x8_1 : Bool), v1 = .int .i64 x1_1 ∧ v8 = .bool x8_1 ∧ Aside0 (reclog_record.l0 kq l0 x1_1 x7_1 x8_1 = some (r1, r2, r3)) ∧ Aside0 (kq ≤ k) ∧ Aside0 (Kd.R (Kd.int .u8) 5 w' w.heap.size (fun _ => True) v7 x7_1) ∧ Aside0 (Below w.heap.size w w'))
  case atStart => exact ⟨(a1), (y166), (true), (by first | rfl | (simp; done) | (simp [*]; done)), (by first | rfl | (simp; done) | (simp [*]; done)), H', ⟨Nat.le_refl _⟩, ⟨by (with_reducible repeat (first | apply Kd.R_alloc | apply Kd.R_drewN | apply Kd.R_drew)); exact HO168.out⟩, ⟨by repeat (first | (with_reducible first | exact HB.out | apply below_alloc | apply pw_below_drewN | apply below_drew1) | exact HB.out)⟩⟩
  case round =>
    clear H'
    try clear p2
    obtain ⟨x1_1, x7_1, x8_1, rfl, rfl, HA, HK1, HO_7, HB⟩ := hrel
    cases gk with
    | zero => exact absurd HA.out (by simp [reclog_record.l0])
    | succ k1 =>
      have H := HA.out
      clear HA
      simp only [reclog_record.l0] at H
      replace H := Option.bind_eq_some_iff.mp H
      obtain ⟨t169, A50, H⟩ := H
      replace H : ((reclog_piece.f k1 l0 t169).bind fun bt170 => (if bt170.2.2 = 0 then (if bt170.1 = 1 then (reclog_record.j1 k1 l0 t169 x7_1 x8_1 bt170.1 bt170.2.1 true) else (reclog_record.j1 k1 l0 t169 x7_1 x8_1 bt170.1 bt170.2.1 (bt170.1 == 2))) else (some (([] : List Int), 0, bt170.2.2)))) = some (r1, r2, r3) := H
      have A5 := Aside0.mk A50
      clear A50
      replace H := Option.bind_eq_some_iff.mp H
      obtain ⟨⟨t170, t171, t174⟩, A60, H⟩ := H
      replace H : (if t174 = 0 then (if t170 = 1 then (reclog_record.j1 k1 l0 t169 x7_1 x8_1 t170 t171 true) else (reclog_record.j1 k1 l0 t169 x7_1 x8_1 t170 t171 (t170 == 2))) else (some (([] : List Int), 0, t174))) = some (r1, r2, r3) := H
      have A6 := Aside0.mk A60
      clear A60
      by_cases c7 : t174 = 0
      · rw [if_pos c7] at H
        have c7b0 : (t174 == 0) = true := beq_iff_eq.mpr c7
        have c7b1 : (t174 != 0) = false := bne_eq_false_iff_eq.mpr c7
        clear c7
        have HC8 := Aside0.mk H
        clear H
        go_upto_region 8 with (first | ((with_reducible refine gate_callee (f := 55) rfl ?_); refine goesL_ (some 15) rfl rfl Try.func55 (by kernel_rfl) rfl #[.int .i64 x1_1] rfl (by (try simp only [List.map_toArray, List.map_cons, List.map_nil]); first | done | rfl | (simp only [List.length_drop, List.length_take]; rfl)) ?_; (with_reducible refine (reclog_place.calls x1_1 t169 _ A5.out).mono ?_); rintro e w' ⟨rfl, ⟨nd, rfl⟩⟩; refine ⟨_, rfl, ?_⟩) | ((with_reducible refine gate_callee (f := 72) rfl ?_); refine goesL_ (some 19) rfl rfl Try.func72 (by kernel_rfl) rfl #[.slice A0 l0.length c0, .int .i64 t169] rfl (by (try simp only [List.map_toArray, List.map_cons, List.map_nil]); first | done | rfl | (simp only [List.length_drop, List.length_take]; rfl)) ?_; (with_reducible refine (reclog_piece.calls k1 (fun k_ => k_ < w.heap.size) _ _ l0 t169 t170 t171 t174 _ ?side1 A6.out).mono ?_); (case side1 => exact Kd.V_mk HC0.out (Kd.F_below (Kd.C_F (Kd.heap_int .u8) HR0.out) (by repeat (first | (with_reducible first | exact HB.out | apply below_alloc | apply pw_below_drewN | apply below_drew1) | exact HB.out)))); rintro e w9 ⟨v172, rfl, ho0, hb⟩; refine ⟨_, rfl, ?_⟩; have n0_ := Aside0.mk (Kd.R_below (by (with_reducible repeat (first | apply Kd.R_alloc | apply Kd.R_drewN | apply Kd.R_drew)); exact HO_7.out) hb); have n1_ := Aside0.mk (Kd.V_lower (Kd.V_mono (ok' := fun k_ => some k_ ≠ (u7 : Value).ownBlock) ho0 (fun k_ hk_ => Or.elim hk_ (fun hs_ => fun e_ => Nat.not_le.2 hs_ (Kd.R_base HO_7.out k_ e_.symm)) (fun hn_ => (Kd.fresh' (Kd.R_lt (by (with_reducible repeat (first | apply Kd.R_alloc | apply Kd.R_drewN | apply Kd.R_drew)); exact HO_7.out)) k_ hn_)))) (below_size (by repeat (first | (with_reducible first | exact HB.out | apply below_alloc | apply pw_below_drewN | apply below_drew1) | exact HB.out)))); have n2_ := Aside0.mk (below_step (by repeat (first | (with_reducible first | exact HB.out | apply below_alloc | apply pw_below_drewN | apply below_drew1) | exact HB.out)) hb); clear HO_7; clear HB; have HO_7 := n0_; have HO173 := n1_; have HB := n2_; clear n0_ n1_ n2_; (try clear hb); (try clear hb2); (try clear hk); (try clear hi); (try clear ho0)))
        (try simp only [Act.put, List.setIfInBounds_toArray, List.set_cons_zero, List.set_cons_succ])
        go_cut [12] (fun v12 wc => ∃ (kq : Nat) (x12_7 : Bool), v12 = .bool x12_7 ∧ Aside0 (reclog_record.j1 kq l0 t169 x7_1 x8_1 t170 t171 x12_7 = some (r1, r2, r3)) ∧ Aside0 (kq ≤ k1) ∧ Aside0 (Kd.R (Kd.int .u8) 5 wc w.heap.size (fun _ => True) u7 x7_1) ∧ Aside0 (Kd.V (Kd.int .u8) 5 wc w.heap.size (fun k_ => some k_ ≠ (u7 : Value).ownBlock) v172 t171) ∧ Aside0 (Below w.heap.size w wc))
        case first =>
          have H := HC8.out
          clear HC8
          by_cases c10 : t170 = 1
          · rw [if_pos c10] at H
            have c10b0 : (t170 == 1) = true := beq_iff_eq.mpr c10
            have c10b1 : (t170 != 1) = false := bne_eq_false_iff_eq.mpr c10
            clear c10
            (first | rw [c10b0] | (simp only [i64_w, i32_w]; rw [c10b0]) | skip)
            have H' := Aside0.mk H
            clear H
            go_wp2
            go_meet
            case rel => exact ⟨_, (true), (by first | rfl | (simp; done) | (simp [*]; done)), H', ⟨by have := HK1.out; first | omega | exact Nat.le_refl _⟩, ⟨by (with_reducible repeat (first | apply Kd.R_alloc | apply Kd.R_drewN | apply Kd.R_drew)); exact HO_7.out⟩, ⟨by (with_reducible repeat (first | apply Kd.V_alloc | apply Kd.V_drewN | apply Kd.V_drew)); exact HO173.out⟩, ⟨by repeat (first | (with_reducible first | exact HB.out | apply below_alloc | apply pw_below_drewN | apply below_drew1) | exact HB.out)⟩⟩
          · rw [if_neg c10] at H
            have c10b0 : (t170 == 1) = false := beq_eq_false_iff_ne.mpr c10
            have c10b1 : (t170 != 1) = true := bne_iff_ne.mpr c10
            (first | rw [c10b0] | (simp only [i64_w, i32_w]; rw [c10b0]) | skip)
            have H' := Aside0.mk H
            clear H
            go_wp2
            go_meet
            case rel => exact ⟨_, ((t170 == 2)), (by first | rfl | (simp; done) | (simp [*]; done)), H', ⟨by have := HK1.out; first | omega | exact Nat.le_refl _⟩, ⟨by (with_reducible repeat (first | apply Kd.R_alloc | apply Kd.R_drewN | apply Kd.R_drew)); exact HO_7.out⟩, ⟨by (with_reducible repeat (first | apply Kd.V_alloc | apply Kd.V_drewN | apply Kd.V_drew)); exact HO173.out⟩, ⟨by repeat (first | (with_reducible first | exact HB.out | apply below_alloc | apply pw_below_drewN | apply below_drew1) | exact HB.out)⟩⟩
        case rest =>
          clear HC8
          try clear c1
          try clear p2
          try clear c5
          try clear c7
          try clear c7b0
          try clear c7b1
          try clear c10
          try clear c10b0
          try clear c10b1
          try clear p2
          obtain ⟨kq, x12_7, rfl, HA, HJ7, HO_7, HO_10, HB⟩ := hcut
          cases kq with
          | zero => exact absurd HA.out (by simp [reclog_record.j1])
          | succ kj7 =>
            have H := HA.out
            clear HA
            simp only [reclog_record.j1] at H
            by_cases c11 : (x12_7 != x8_1) = true
            · rw [if_pos c11] at H
              have c11b0 : (x12_7 != x8_1) = true := c11
              (try (have c11b1 : decide (x12_7 = x8_1) = false := by simpa using c11))
              (try (have c11b2 : (x12_7 == x8_1) = false := by simpa using c11))
              (try (have c11b3 : ¬ (x12_7 = x8_1) := by simpa using c11))
              clear c11
              simp only [Option.some.injEq, Prod.mk.injEq] at H
              obtain ⟨rfl, rfl, rfl⟩ := H
              go_wp2
              go_ret3
              exact ⟨_, by first | rfl | (simp [errW_none, errW_some] <;> rfl) | (simp [*, errW_none, errW_some] <;> rfl), by first | exact Kd.R_nil _ _ _ _ _ | exact Kd.N_nil _ _ _ _ _ | exact Kd.V_nil _ _ _ _ _ | exact Kd.Q_nil _ _ _ _ _ | exact Kd.S_nil _ _ _ _ _, by repeat (first | (with_reducible first | exact HB.out | apply below_alloc | apply pw_below_drewN | apply below_drew1) | exact HB.out)⟩
            · rw [if_neg c11] at H
              have c11b0 : (x12_7 != x8_1) = false := by simpa using c11
              (try (have c11b1 : decide (x12_7 = x8_1) = true := by simpa using c11))
              (try (have c11b2 : (x12_7 == x8_1) = true := by simpa using c11))
              clear c11
              by_cases c12 : x7_1.length + t171.length < 140737488355328
              · rw [if_pos c12] at H
                have LMc12 := Aside0.mk c12
                clear c12
                obtain ⟨y175, hy175⟩ : ∃ y_ : List Int, y_ = (x7_1 ++ t171) := ⟨_, rfl⟩
                replace H : (if t170 = 1 then (some (y175, wrap64 (t169 + (wrap64 (7 + (t171.length : Int)))), 0)) else (if t170 = 4 then (some (y175, wrap64 (t169 + (wrap64 (7 + (t171.length : Int)))), 0)) else (reclog_record.l0 kj7 l0 (wrap64 (t169 + (wrap64 (7 + (t171.length : Int))))) y175 false))) = some (r1, r2, r3) := by first | (rw [hy175]; with_reducible exact H) | (have H2_ := (Option.bind_some _ _).symm.trans H; rw [hy175]; with_reducible exact H2_) | (have H2_ := (Option.bind_some _ _).symm.trans H; with_reducible exact H2_) | with_reducible exact H | (rw [hy175]; exact H) | exact H
                have Ny175 := Aside0.mk hy175
                clear hy175
                by_cases c13 : t170 = 1
                · rw [if_pos c13] at H
                  have c13b0 : (t170 == 1) = true := beq_iff_eq.mpr c13
                  have c13b1 : (t170 != 1) = false := bne_eq_false_iff_eq.mpr c13
                  clear c13
                  simp only [Option.some.injEq, Prod.mk.injEq] at H
                  obtain ⟨rfl, rfl, rfl⟩ := H
                  obtain ⟨Ao15, co15, eo15⟩ := Kd.V_slice HO_10.out
                  subst eo15
                  go_wp2_with (first | ((with_reducible refine gate_builtin (b := .append) (xs := #[.tmp 35, .tmp 36]) rfl ?_); at_builtin; refine Kd.R_append_rows (Kd.int .u8) (w0 := w) w.heap.size rfl (.tmp 35) (.tmp 36) 41 5 (.int .u8 0) 1 rfl Try.underlying41 info5 rfl (by decide) (by omega) u7 x7_1 t171 _ _ _ (fun _ => True) (fun _ => False) rfl rfl ?aO ?aR (fun _ _ h => h) (fun _ h => h.elim) ?aF ?aB ?aS ?aL ?_; (case aR => repeat (first | exact (Kd.V_reads' HO_10.out).2.2 | (with_reducible refine Kd.C_alloc ?_ _) | (with_reducible refine Kd.C_drewN ?_ _) | (with_reducible refine Kd.C_drew ?_))); (case aB => exact (by repeat (first | (with_reducible first | exact HB.out | apply below_alloc | apply pw_below_drewN | apply below_drew1) | exact HB.out))); (case aF => exact (fun _ _ => trivial)); (case aO => exact (by (with_reducible repeat (first | apply Kd.R_alloc | apply Kd.R_drewN | apply Kd.R_drew)); exact HO_7.out)); (case aS => exact (below_size (by repeat (first | (with_reducible first | exact HB.out | apply below_alloc | apply pw_below_drewN | apply below_drew1) | exact HB.out)))); (case aL => have := LMc12.out; omega); intro v176 w14 ho hb hg hat; rw [← Ny175.out] at ho; have n0_ := Aside0.mk (Kd.V_afterv (ok := (fun _ => True)) (by (with_reducible repeat (first | apply Kd.V_alloc | apply Kd.V_drewN | apply Kd.V_drew)); exact Kd.V_mono HO_10.out (fun _ hk => ⟨trivial, hk⟩)) hg hat); have n1_ := Aside0.mk (hb); have n2_ := Aside0.mk (ho); clear HO_10; clear HB; clear HO_7; have HO_10 := n0_; have HB := n1_; have HO177 := n2_; clear n0_ n1_ n2_; clear ho hb hg hat))
                  go_ret3
                  exact ⟨_, by first | rfl | (simp [errW_none, errW_some] <;> rfl) | (simp [*, errW_none, errW_some] <;> rfl), by (with_reducible repeat (first | apply Kd.R_alloc | apply Kd.R_drewN | apply Kd.R_drew)); exact HO177.out, by repeat (first | (with_reducible first | exact HB.out | apply below_alloc | apply pw_below_drewN | apply below_drew1) | exact HB.out)⟩
                · rw [if_neg c13] at H
                  have c13b0 : (t170 == 1) = false := beq_eq_false_iff_ne.mpr c13
                  have c13b1 : (t170 != 1) = true := bne_iff_ne.mpr c13
                  by_cases c16 : t170 = 4
                  · rw [if_pos c16] at H
                    have c16b0 : (t170 == 4) = true := beq_iff_eq.mpr c16
                    have c16b1 : (t170 != 4) = false := bne_eq_false_iff_eq.mpr c16
                    clear c16
                    simp only [Option.some.injEq, Prod.mk.injEq] at H
                    obtain ⟨rfl, rfl, rfl⟩ := H
                    obtain ⟨Ao18, co18, eo18⟩ := Kd.V_slice HO_10.out
                    subst eo18
                    go_wp2_with (first | ((with_reducible refine gate_builtin (b := .append) (xs := #[.tmp 35, .tmp 36]) rfl ?_); at_builtin; refine Kd.R_append_rows (Kd.int .u8) (w0 := w) w.heap.size rfl (.tmp 35) (.tmp 36) 41 5 (.int .u8 0) 1 rfl Try.underlying41 info5 rfl (by decide) (by omega) u7 x7_1 t171 _ _ _ (fun _ => True) (fun _ => False) rfl rfl ?aO ?aR (fun _ _ h => h) (fun _ h => h.elim) ?aF ?aB ?aS ?aL ?_; (case aR => repeat (first | exact (Kd.V_reads' HO_10.out).2.2 | (with_reducible refine Kd.C_alloc ?_ _) | (with_reducible refine Kd.C_drewN ?_ _) | (with_reducible refine Kd.C_drew ?_))); (case aB => exact (by repeat (first | (with_reducible first | exact HB.out | apply below_alloc | apply pw_below_drewN | apply below_drew1) | exact HB.out))); (case aF => exact (fun _ _ => trivial)); (case aO => exact (by (with_reducible repeat (first | apply Kd.R_alloc | apply Kd.R_drewN | apply Kd.R_drew)); exact HO_7.out)); (case aS => exact (below_size (by repeat (first | (with_reducible first | exact HB.out | apply below_alloc | apply pw_below_drewN | apply below_drew1) | exact HB.out)))); (case aL => have := LMc12.out; omega); intro v176 w17 ho hb hg hat; rw [← Ny175.out] at ho; have n0_ := Aside0.mk (Kd.V_afterv (ok := (fun _ => True)) (by (with_reducible repeat (first | apply Kd.V_alloc | apply Kd.V_drewN | apply Kd.V_drew)); exact Kd.V_mono HO_10.out (fun _ hk => ⟨trivial, hk⟩)) hg hat); have n1_ := Aside0.mk (hb); have n2_ := Aside0.mk (ho); clear HO_10; clear HB; clear HO_7; have HO_10 := n0_; have HB := n1_; have HO177 := n2_; clear n0_ n1_ n2_; clear ho hb hg hat))
                    go_ret3
                    exact ⟨_, by first | rfl | (simp [errW_none, errW_some] <;> rfl) | (simp [*, errW_none, errW_some] <;> rfl), by (with_reducible repeat (first | apply Kd.R_alloc | apply Kd.R_drewN | apply Kd.R_drew)); exact HO177.out, by repeat (first | (with_reducible first | exact HB.out | apply below_alloc | apply pw_below_drewN | apply below_drew1) | exact HB.out)⟩
                  · rw [if_neg c16] at H
                    have c16b0 : (t170 == 4) = false := beq_eq_false_iff_ne.mpr c16
                    have c16b1 : (t170 != 4) = true := bne_iff_ne.mpr c16
                    have H' := Aside0.mk H
                    clear H
                    obtain ⟨Ao20, co20, eo20⟩ := Kd.V_slice HO_10.out
                    subst eo20
                    go_wp2_with (first | ((with_reducible refine gate_builtin (b := .append) (xs := #[.tmp 35, .tmp 36]) rfl ?_); at_builtin; refine Kd.R_append_rows (Kd.int .u8) (w0 := w) w.heap.size rfl (.tmp 35) (.tmp 36) 41 5 (.int .u8 0) 1 rfl Try.underlying41 info5 rfl (by decide) (by omega) u7 x7_1 t171 _ _ _ (fun _ => True) (fun _ => False) rfl rfl ?aO ?aR (fun _ _ h => h) (fun _ h => h.elim) ?aF ?aB ?aS ?aL ?_; (case aR => repeat (first | exact (Kd.V_reads' HO_10.out).2.2 | (with_reducible refine Kd.C_alloc ?_ _) | (with_reducible refine Kd.C_drewN ?_ _) | (with_reducible refine Kd.C_drew ?_))); (case aB => exact (by repeat (first | (with_reducible first | exact HB.out | apply below_alloc | apply pw_below_drewN | apply below_drew1) | exact HB.out))); (case aF => exact (fun _ _ => trivial)); (case aO => exact (by (with_reducible repeat (first | apply Kd.R_alloc | apply Kd.R_drewN | apply Kd.R_drew)); exact HO_7.out)); (case aS => exact (below_size (by repeat (first | (with_reducible first | exact HB.out | apply below_alloc | apply pw_below_drewN | apply below_drew1) | exact HB.out)))); (case aL => have := LMc12.out; omega); intro v176 w19 ho hb hg hat; rw [← Ny175.out] at ho; have n0_ := Aside0.mk (Kd.V_afterv (ok := (fun _ => True)) (by (with_reducible repeat (first | apply Kd.V_alloc | apply Kd.V_drewN | apply Kd.V_drew)); exact Kd.V_mono HO_10.out (fun _ hk => ⟨trivial, hk⟩)) hg hat); have n1_ := Aside0.mk (hb); have n2_ := Aside0.mk (ho); clear HO_10; clear HB; clear HO_7; have HO_10 := n0_; have HB := n1_; have HO177 := n2_; clear n0_ n1_ n2_; clear ho hb hg hat))
                    go_roundg kj7
                    case measure => have := HK1.out; have := HJ7.out; omega
                    case rel => exact ⟨(wrap64 (t169 + (wrap64 (7 + (t171.length : Int))))), (y175), (false), (by first | rfl | (simp; done) | (simp [*]; done)), (by first | rfl | (simp; done) | (simp [*]; done)), H', ⟨by have := HK1.out; have := HJ7.out; omega⟩, ⟨by (with_reducible repeat (first | apply Kd.R_alloc | apply Kd.R_drewN | apply Kd.R_drew)); exact HO177.out⟩, ⟨by repeat (first | (with_reducible first | exact HB.out | apply below_alloc | apply pw_below_drewN | apply below_drew1) | exact HB.out)⟩⟩
              · rw [if_neg c12] at H
                exact absurd H (by simp)
      · rw [if_neg c7] at H
        have c7b0 : (t174 == 0) = false := beq_eq_false_iff_ne.mpr c7
        have c7b1 : (t174 != 0) = true := bne_iff_ne.mpr c7
        simp only [Option.some.injEq, Prod.mk.injEq] at H
        obtain ⟨rfl, rfl, rfl⟩ := H
        go_wp2_with (first | ((with_reducible refine gate_callee (f := 55) rfl ?_); refine goesL_ (some 15) rfl rfl Try.func55 (by kernel_rfl) rfl #[.int .i64 x1_1] rfl (by (try simp only [List.map_toArray, List.map_cons, List.map_nil]); first | done | rfl | (simp only [List.length_drop, List.length_take]; rfl)) ?_; (with_reducible refine (reclog_place.calls x1_1 t169 _ A5.out).mono ?_); rintro e w' ⟨rfl, ⟨nd, rfl⟩⟩; refine ⟨_, rfl, ?_⟩) | ((with_reducible refine gate_callee (f := 72) rfl ?_); refine goesL_ (some 19) rfl rfl Try.func72 (by kernel_rfl) rfl #[.slice A0 l0.length c0, .int .i64 t169] rfl (by (try simp only [List.map_toArray, List.map_cons, List.map_nil]); first | done | rfl | (simp only [List.length_drop, List.length_take]; rfl)) ?_; (with_reducible refine (reclog_piece.calls k1 (fun k_ => k_ < w.heap.size) _ _ l0 t169 t170 t171 t174 _ ?side1 A6.out).mono ?_); (case side1 => exact Kd.V_mk HC0.out (Kd.F_below (Kd.C_F (Kd.heap_int .u8) HR0.out) (by repeat (first | (with_reducible first | exact HB.out | apply below_alloc | apply pw_below_drewN | apply below_drew1) | exact HB.out)))); rintro e w21 ⟨v172, rfl, ho0, hb⟩; refine ⟨_, rfl, ?_⟩; have n0_ := Aside0.mk (Kd.R_below (by (with_reducible repeat (first | apply Kd.R_alloc | apply Kd.R_drewN | apply Kd.R_drew)); exact HO_7.out) hb); have n1_ := Aside0.mk (Kd.V_lower (Kd.V_mono (ok' := fun k_ => some k_ ≠ (u7 : Value).ownBlock) ho0 (fun k_ hk_ => Or.elim hk_ (fun hs_ => fun e_ => Nat.not_le.2 hs_ (Kd.R_base HO_7.out k_ e_.symm)) (fun hn_ => (Kd.fresh' (Kd.R_lt (by (with_reducible repeat (first | apply Kd.R_alloc | apply Kd.R_drewN | apply Kd.R_drew)); exact HO_7.out)) k_ hn_)))) (below_size (by repeat (first | (with_reducible first | exact HB.out | apply below_alloc | apply pw_below_drewN | apply below_drew1) | exact HB.out)))); have n2_ := Aside0.mk (below_step (by repeat (first | (with_reducible first | exact HB.out | apply below_alloc | apply pw_below_drewN | apply below_drew1) | exact HB.out)) hb); clear HO_7; clear HB; have HO_7 := n0_; have HO173 := n1_; have HB := n2_; clear n0_ n1_ n2_; (try clear hb); (try clear hb2); (try clear hk); (try clear hi); (try clear ho0)))
        go_ret3
        exact ⟨_, by first | rfl | (simp [errW_none, errW_some] <;> rfl) | (simp [*, errW_none, errW_some] <;> rfl), by first | exact Kd.R_nil _ _ _ _ _ | exact Kd.N_nil _ _ _ _ _ | exact Kd.V_nil _ _ _ _ _ | exact Kd.Q_nil _ _ _ _ _ | exact Kd.S_nil _ _ _ _ _, by repeat (first | (with_reducible first | exact HB.out | apply below_alloc | apply pw_below_drewN | apply below_drew1) | exact HB.out)⟩

/-! ### reclog_Read: function 40 -/
def reclog_Read.l0 : Nat → List Int → List (List Int) → Int → Option ((List (List Int)) × Int × Bool)
  | 0, _, _, _ => none
  | k + 1, x0, x5, x6 => (reclog_record.f k x0 x6).bind fun bt178 => (if bt178.2.2 = 0 then (if x5.length < 5864062014805 then (reclog_Read.l0 k x0 (x5 ++ [bt178.1]) bt178.2.1) else (none)) else (some (x5, x6, (bt178.2.2 == 1))))
def reclog_Read.f (k : Nat) (l0 : List Int) : Option ((List (List Int)) × Int × Bool) := reclog_Read.l0 k l0 ([] : List (List Int)) 0
theorem reclog_Read.mono_l : ∀ k, (∀ y0 y1 y2, LeO (reclog_Read.l0 k y0 y1 y2) (reclog_Read.l0 (k + 1) y0 y1 y2))
  | 0 => fun _ _ _ r h => by simp [reclog_Read.l0] at h
  | k + 1 => by
    have ih0 := reclog_Read.mono_l k
    · intro y0 y1 y2
      unfold reclog_Read.l0
      repeat' first
      | (with_reducible exact ih0 _ _ _)
      | (with_reducible exact reclog_record.mono _ _ _)
      | (with_reducible exact LeO.refl _)
      | (with_reducible exact LeO.none _)
      | (with_reducible refine LeO.ite ?_ ?_)
      | (with_reducible refine LeO.bind ?_ (fun _ => ?_))
      | exact ih0 _ _ _
      | exact reclog_record.mono _ _ _
      | exact LeO.none _
      | refine LeO.ite ?_ ?_
      | refine LeO.bind ?_ (fun _ => ?_)
theorem reclog_Read.mono : ∀ a0 k, LeO (reclog_Read.f k a0) (reclog_Read.f (k + 1) a0) := by
  intro a0 k
  have ih0 := reclog_Read.mono_l k
  unfold reclog_Read.f
  repeat' first
      | (with_reducible exact ih0 _ _ _)
      | (with_reducible exact reclog_record.mono _ _ _)
      | (with_reducible exact LeO.refl _)
      | (with_reducible exact LeO.none _)
      | (with_reducible refine LeO.ite ?_ ?_)
      | (with_reducible refine LeO.bind ?_ (fun _ => ?_))
      | exact ih0 _ _ _
      | exact reclog_record.mono _ _ _
      | exact LeO.none _
      | refine LeO.ite ?_ ?_
      | refine LeO.bind ?_ (fun _ => ?_)
set_option maxHeartbeats 8000000 in
set_option maxRecDepth 100000 in
theorem reclog_Read.calls (k : Nat) (A0 : Option Addr) (c0 : Nat) (l0 : List Int) (r1 : List (List Int)) (r2 : Int) (r3 : Bool) (w : World) (hr0 : Kd.C (Kd.int .u8) w A0 l0.length l0) (hc0 : l0.length ≤ c0) (h : reclog_Read.f k l0 = some (r1, r2, r3)) :
    Calls Try.prog 40 #[.slice A0 l0.length c0] w fun e w' => ∃ v0_ : Value, e = .returned (.tuple #[v0_, .int .i64 r2, .bool r3]) ∧ Kd.S (Kd.slice 5 (Kd.int .u8)) 41 w' w.heap.size (fun _ => True) v0_ r1 ∧ Below w.heap.size w w' := by
  have HR0 := Aside0.mk hr0
  have HC0 := Aside0.mk hc0
  clear hr0 hc0
  have HB := Aside0.mk (Below.refl w.heap.size w)
  have H : (reclog_Read.l0 k l0 ([] : List (List Int)) 0) = some (r1, r2, r3) := h
  clear h
  have H' := Aside0.mk H
  clear H
  go_enter Try.func40, Try.ntmps40
  go_wp2
  go_loopg [5, 6] k (fun kq v5 v6 w' => ∃ (x5_1 : List (List Int)) (x6_1 : Int), v6 = .int .i64 x6_1 ∧ Aside0 (reclog_Read.l0 kq l0 x5_1 x6_1 = some (r1, r2, r3)) ∧ Aside0 (kq ≤ k) ∧ Aside0 (Kd.S (Kd.slice 5 (Kd.int .u8)) 41 w' w.heap.size (fun _ => True) v5 x5_1) ∧ Aside0 (Below w.heap.size w w'))
  case atStart => exact ⟨(([] : List (List Int))), (0), (by first | rfl | (simp; done) | (simp [*]; done)), H', ⟨Nat.le_refl _⟩, ⟨by first | exact Kd.S_nil _ _ _ _ _ | exact Kd.N_nil _ _ _ _ _ | exact Kd.V_nil _ _ _ _ _ | exact Kd.Q_nil _ _ _ _ _ | exact Kd.R_nil _ _ _ _ _⟩, ⟨by repeat (first | (with_reducible first | exact HB.out | apply below_alloc | apply pw_below_drewN | apply below_drew1) | exact HB.out)⟩⟩
  case round =>
    clear H'
    obtain ⟨x5_1, x6_1, rfl, HA, HK1, HO_5, HB⟩ := hrel
    cases gk with
    | zero => exact absurd HA.out (by simp [reclog_Read.l0])
    | succ k1 =>
      have H := HA.out
      clear HA
      simp only [reclog_Read.l0] at H
      replace H := Option.bind_eq_some_iff.mp H
      obtain ⟨⟨t178, t179, t180⟩, A20, H⟩ := H
      replace H : (if t180 = 0 then (if x5_1.length < 5864062014805 then (reclog_Read.l0 k1 l0 (x5_1 ++ [t178]) t179) else (none)) else (some (x5_1, x6_1, (t180 == 1)))) = some (r1, r2, r3) := H
      have A2 := Aside0.mk A20
      clear A20
      by_cases c3 : t180 = 0
      · rw [if_pos c3] at H
        have c3b0 : (t180 == 0) = true := beq_iff_eq.mpr c3
        have c3b1 : (t180 != 0) = false := bne_eq_false_iff_eq.mpr c3
        clear c3
        by_cases c4 : x5_1.length < 5864062014805
        · rw [if_pos c4] at H
          have LMc4 := Aside0.mk c4
          clear c4
          obtain ⟨y183, hy183⟩ : ∃ y_ : List (List Int), y_ = (x5_1 ++ [t178]) := ⟨_, rfl⟩
          replace H : (reclog_Read.l0 k1 l0 y183 t179) = some (r1, r2, r3) := by first | (rw [hy183]; with_reducible exact H) | (have H2_ := (Option.bind_some _ _).symm.trans H; rw [hy183]; with_reducible exact H2_) | (have H2_ := (Option.bind_some _ _).symm.trans H; with_reducible exact H2_) | with_reducible exact H | (rw [hy183]; exact H) | exact H
          have Ny183 := Aside0.mk hy183
          clear hy183
          have H' := Aside0.mk H
          clear H
          go_wp2_with (first | ((with_reducible refine gate_callee (f := 59) rfl ?_); refine goesL_ (some 13) rfl rfl Try.func59 (by kernel_rfl) rfl #[.slice A0 l0.length c0, .int .i64 x6_1] rfl (by (try simp only [List.map_toArray, List.map_cons, List.map_nil]); first | done | rfl | (simp only [List.length_drop, List.length_take]; rfl)) ?_; (with_reducible refine (reclog_record.calls k1 _ _ l0 x6_1 t178 t179 t180 _ ?side1 ?side2 A2.out).mono ?_); (case side1 => repeat (first | exact (Kd.C_below HR0.out HB.out) | (with_reducible refine Kd.C_alloc ?_ _) | (with_reducible refine Kd.C_drewN ?_ _) | (with_reducible refine Kd.C_drew ?_))); (case side2 => exact HC0.out); rintro e w5 ⟨v181, rfl, ho0, hb⟩; refine ⟨_, rfl, ?_⟩; have n0_ := Aside0.mk (Kd.S_elder' (by (with_reducible repeat (first | apply Kd.S_alloc | apply Kd.S_drewN | apply Kd.S_drew)); exact HO_5.out) (Kd.R_base ho0) hb); have n1_ := Aside0.mk (Kd.R_lower ho0 (below_size (by repeat (first | (with_reducible first | exact HB.out | apply below_alloc | apply pw_below_drewN | apply below_drew1) | exact HB.out)))); have n2_ := Aside0.mk (below_step (by repeat (first | (with_reducible first | exact HB.out | apply below_alloc | apply pw_below_drewN | apply below_drew1) | exact HB.out)) hb); clear HO_5; clear HB; have HO_5 := n0_; have HO182 := n1_; have HB := n2_; clear n0_ n1_ n2_; (try clear hb); (try clear hb2); (try clear hk); (try clear hi); (try clear ho0); obtain ⟨Ao7, co7, eo7⟩ := Kd.R_slice HO182.out; subst eo7) | ((with_reducible refine gate_builtin (b := .append) (xs := #[.tmp 23, .tmp 25]) rfl ?_); at_builtin; refine Kd.S_append (Kd.slice 5 (Kd.int .u8)) (w0 := w) w.heap.size rfl (.tmp 23) (.tmp 25) 49 41 (.slice none 0 0) 24 rfl Try.underlying49 info41 rfl (by decide) (by omega) u5 x5_1 t178 [.slice Ao7 t178.length co7] (fun _ => True) (fun k_ => some k_ = (.slice Ao7 t178.length co7 : Value).ownBlock) rfl rfl ?aP (fun k_ hk_ => ((Kd.R_mono (ok' := fun k_ => ((fun _ => True)) k_ ∧ some k_ ≠ (u5 : Value).ownBlock) (Kd.R_apart' (HO182.out) (Kd.S_typed HO_5.out) (by decide)) (fun k_ hk => ⟨trivial, hk.2⟩))).1 k_ hk_.symm) ?aF ?aO ?aB ?aS ?aL ?_; (case aP => exact Kd.M_row (Kd.R_mono (Kd.R_tight rfl (Kd.R_mono (ok' := fun k_ => ((fun _ => True)) k_ ∧ some k_ ≠ (u5 : Value).ownBlock) (Kd.R_apart' (HO182.out) (Kd.S_typed HO_5.out) (by decide)) (fun k_ hk => ⟨trivial, hk.2⟩))) (fun _ h_ => h_))); (case aB => exact (by repeat (first | (with_reducible first | exact HB.out | apply below_alloc | apply pw_below_drewN | apply below_drew1) | exact HB.out))); (case aF => exact (fun _ _ => trivial)); (case aO => exact (by (with_reducible repeat (first | apply Kd.S_alloc | apply Kd.S_drewN | apply Kd.S_drew)); exact Kd.S_mono HO_5.out (fun k_ hk => ⟨trivial, fun e_ => hk.2 e_⟩))); (case aS => exact (below_size (by repeat (first | (with_reducible first | exact HB.out | apply below_alloc | apply pw_below_drewN | apply below_drew1) | exact HB.out)))); (case aL => have := LMc4.out; omega); intro v184 w6 ho hb hg hat; rw [← Ny183.out] at ho; have n0_ := Aside0.mk (hb); have n1_ := Aside0.mk (ho); clear HB; clear HO_5; clear HO182; have HB := n0_; have HO185 := n1_; clear n0_ n1_; clear ho hb hg hat))
          go_roundg k1
          case measure => have := HK1.out; omega
          case rel => exact ⟨(y183), (t179), (by first | rfl | (simp; done) | (simp [*]; done)), H', ⟨by have := HK1.out; omega⟩, ⟨by (with_reducible repeat (first | apply Kd.S_alloc | apply Kd.S_drewN | apply Kd.S_drew)); exact HO185.out⟩, ⟨by repeat (first | (with_reducible first | exact HB.out | apply below_alloc | apply pw_below_drewN | apply below_drew1) | exact HB.out)⟩⟩
        · rw [if_neg c4] at H
          exact absurd H (by simp)
      · rw [if_neg c3] at H
        have c3b0 : (t180 == 0) = false := beq_eq_false_iff_ne.mpr c3
        have c3b1 : (t180 != 0) = true := bne_iff_ne.mpr c3
        simp only [Option.some.injEq, Prod.mk.injEq] at H
        obtain ⟨rfl, rfl, rfl⟩ := H
        go_wp2_with (first | ((with_reducible refine gate_callee (f := 59) rfl ?_); refine goesL_ (some 13) rfl rfl Try.func59 (by kernel_rfl) rfl #[.slice A0 l0.length c0, .int .i64 x6_1] rfl (by (try simp only [List.map_toArray, List.map_cons, List.map_nil]); first | done | rfl | (simp only [List.length_drop, List.length_take]; rfl)) ?_; (with_reducible refine (reclog_record.calls k1 _ _ l0 x6_1 t178 t179 t180 _ ?side1 ?side2 A2.out).mono ?_); (case side1 => repeat (first | exact (Kd.C_below HR0.out HB.out) | (with_reducible refine Kd.C_alloc ?_ _) | (with_reducible refine Kd.C_drewN ?_ _) | (with_reducible refine Kd.C_drew ?_))); (case side2 => exact HC0.out); rintro e w8 ⟨v181, rfl, ho0, hb⟩; refine ⟨_, rfl, ?_⟩; have n0_ := Aside0.mk (Kd.S_elder' (by (with_reducible repeat (first | apply Kd.S_alloc | apply Kd.S_drewN | apply Kd.S_drew)); exact HO_5.out) (Kd.R_base ho0) hb); have n1_ := Aside0.mk (Kd.R_lower ho0 (below_size (by repeat (first | (with_reducible first | exact HB.out | apply below_alloc | apply pw_below_drewN | apply below_drew1) | exact HB.out)))); have n2_ := Aside0.mk (below_step (by repeat (first | (with_reducible first | exact HB.out | apply below_alloc | apply pw_below_drewN | apply below_drew1) | exact HB.out)) hb); clear HO_5; clear HB; have HO_5 := n0_; have HO182 := n1_; have HB := n2_; clear n0_ n1_ n2_; (try clear hb); (try clear hb2); (try clear hk); (try clear hi); (try clear ho0)))
        go_ret3
        exact ⟨_, by first | rfl | (simp [errW_none, errW_some] <;> rfl) | (simp [*, errW_none, errW_some] <;> rfl), by (with_reducible repeat (first | apply Kd.S_alloc | apply Kd.S_drewN | apply Kd.S_drew)); exact Kd.S_mono HO_5.out (fun _ hk => trivial), by repeat (first | (with_reducible first | exact HB.out | apply below_alloc | apply pw_below_drewN | apply below_drew1) | exact HB.out)⟩

/-! ### incipitlaw11_begun: function 36 -/
def incipitlaw11_begun.f (k : Nat)  : Option (Bool) := (reclog_Append.f k 0 (([97, 98] : List Int))).bind fun t189 => ((reclog_Read.f k t189).bind fun bt192 => (if (t189.length : Int) = 9 then (if (bt192.1.length : Int) = 1 then (if 0 < (bt192.1.length : Int) then (if (strOfNums (rd_L1 bt192.1 0)).toList = ([97, 98] : List UInt8) then (if bt192.2.1 = 9 then (some bt192.2.2) else (some false)) else (some false)) else (none)) else (some false)) else (some false)))
theorem incipitlaw11_begun.mono : ∀ k, LeO (incipitlaw11_begun.f k ) (incipitlaw11_begun.f (k + 1) ) := by
  intro  k
  unfold incipitlaw11_begun.f
  repeat' first
      | (with_reducible exact reclog_Append.mono _ _ _)
      | (with_reducible exact reclog_Read.mono _ _)
      | (with_reducible exact LeO.refl _)
      | (with_reducible exact LeO.none _)
      | (with_reducible refine LeO.ite ?_ ?_)
      | (with_reducible refine LeO.bind ?_ (fun _ => ?_))
      | exact reclog_Append.mono _ _ _
      | exact reclog_Read.mono _ _
      | exact LeO.none _
      | refine LeO.ite ?_ ?_
      | refine LeO.bind ?_ (fun _ => ?_)
set_option maxHeartbeats 8000000 in
set_option maxRecDepth 100000 in
theorem incipitlaw11_begun.calls (k : Nat)  (r : Bool) (w : World) (h : incipitlaw11_begun.f k  = some r) :
    Calls Try.prog 36 #[] w fun e w' => e = .returned (.bool r) ∧ Below w.heap.size w w' := by
  have HB := Aside0.mk (Below.refl w.heap.size w)
  have H : ((reclog_Append.f k 0 (([97, 98] : List Int))).bind fun t189 => ((reclog_Read.f k t189).bind fun bt192 => (if (t189.length : Int) = 9 then (if (bt192.1.length : Int) = 1 then (if 0 < (bt192.1.length : Int) then (if (strOfNums (rd_L1 bt192.1 0)).toList = ([97, 98] : List UInt8) then (if bt192.2.1 = 9 then (some bt192.2.2) else (some false)) else (some false)) else (none)) else (some false)) else (some false)))) = some r := h
  clear h
  obtain ⟨y186, hy186⟩ : ∃ y_ : List Int, y_ = (([97, 98] : List Int)) := ⟨_, rfl⟩
  replace H : ((reclog_Append.f k 0 y186).bind fun t189 => ((reclog_Read.f k t189).bind fun bt192 => (if (t189.length : Int) = 9 then (if (bt192.1.length : Int) = 1 then (if 0 < (bt192.1.length : Int) then (if (strOfNums (rd_L1 bt192.1 0)).toList = ([97, 98] : List UInt8) then (if bt192.2.1 = 9 then (some bt192.2.2) else (some false)) else (some false)) else (none)) else (some false)) else (some false)))) = some r := by first | (rw [hy186]; with_reducible exact H) | (have H2_ := (Option.bind_some _ _).symm.trans H; rw [hy186]; with_reducible exact H2_) | (have H2_ := (Option.bind_some _ _).symm.trans H; with_reducible exact H2_) | with_reducible exact H | (rw [hy186]; exact H) | exact H
  have Ny186 := Aside0.mk hy186
  clear hy186
  replace H := Option.bind_eq_some_iff.mp H
  obtain ⟨t189, A10, H⟩ := H
  replace H : ((reclog_Read.f k t189).bind fun bt192 => (if (t189.length : Int) = 9 then (if (bt192.1.length : Int) = 1 then (if 0 < (bt192.1.length : Int) then (if (strOfNums (rd_L1 bt192.1 0)).toList = ([97, 98] : List UInt8) then (if bt192.2.1 = 9 then (some bt192.2.2) else (some false)) else (some false)) else (none)) else (some false)) else (some false))) = some r := H
  have A1 := Aside0.mk A10
  clear A10
  replace H := Option.bind_eq_some_iff.mp H
  obtain ⟨⟨t192, t193, t194⟩, A20, H⟩ := H
  replace H : (if (t189.length : Int) = 9 then (if (t192.length : Int) = 1 then (if 0 < (t192.length : Int) then (if (strOfNums (rd_L1 t192 0)).toList = ([97, 98] : List UInt8) then (if t193 = 9 then (some t194) else (some false)) else (some false)) else (none)) else (some false)) else (some false)) = some r := H
  have A2 := Aside0.mk A20
  clear A20
  by_cases c3 : (t189.length : Int) = 9
  · rw [if_pos c3] at H
    have c3b0 : ((t189.length : Int) == 9) = true := beq_iff_eq.mpr c3
    have c3b1 : ((t189.length : Int) != 9) = false := bne_eq_false_iff_eq.mpr c3
    clear c3
    by_cases c4 : (t192.length : Int) = 1
    · rw [if_pos c4] at H
      have c4b0 : ((t192.length : Int) == 1) = true := beq_iff_eq.mpr c4
      have c4b1 : ((t192.length : Int) != 1) = false := bne_eq_false_iff_eq.mpr c4
      clear c4
      by_cases c5 : 0 < (t192.length : Int)
      · rw [if_pos c5] at H
        have c5b0 : decide (0 < (t192.length : Int)) = true := decide_eq_true c5
        have c5b1 : decide (0 < t192.length) = true := decide_eq_true (by omega)
        clear c5
        by_cases c6 : (strOfNums (rd_L1 t192 0)).toList = ([97, 98] : List UInt8)
        · rw [if_pos c6] at H
          have c6b0 : ((strOfNums (rd_L1 t192 0)).toList == ([97, 98] : List UInt8)) = true := beq_iff_eq.mpr c6
          have c6b1 : ((strOfNums (rd_L1 t192 0)).toList != ([97, 98] : List UInt8)) = false := bne_eq_false_iff_eq.mpr c6
          clear c6
          by_cases c7 : t193 = 9
          · rw [if_pos c7] at H
            have c7b0 : (t193 == 9) = true := beq_iff_eq.mpr c7
            have c7b1 : (t193 != 9) = false := bne_eq_false_iff_eq.mpr c7
            clear c7
            obtain rfl := Option.some.inj H
            simp only [Option.some.injEq, Prod.mk.injEq] at H
            obtain ⟨rfl⟩ := H
            go_enter Try.func36, Try.ntmps36
            go_wp2_with (first | ((with_reducible refine gate_dst (N := 6) rfl ?_); (try (refine gate_guard (by rfl) ?_; dsimp only)); refine lit_bytes 41 5 w.heap.size rfl (N := 6) rfl (x := .tmp 5) rfl Try.underlying41 Try.underlying5 ([97, 98] : List Int) rfl rfl (by decide) ?_; intro v187 w8 ho9 hb; (first | rw [← Ny186.out] at ho9 | (simp only [Int.reduceToNat] at ho9; rw [← Ny186.out] at ho9)); have n0_ := Aside0.mk (Kd.V_lower (Kd.V_mono (ok' := fun k_ => True) ho9 (fun k_ hk_ => trivial)) (below_size (by repeat (first | (with_reducible first | exact HB.out | apply below_alloc | apply pw_below_drewN | apply below_drew1) | exact HB.out)))); have n1_ := Aside0.mk (below_step (by repeat (first | (with_reducible first | exact HB.out | apply below_alloc | apply pw_below_drewN | apply below_drew1) | exact HB.out)) hb); clear HB; have HO188 := n0_; have HB := n1_; clear n0_ n1_; clear hb ho9; obtain ⟨Ao10, co10, eo10⟩ := Kd.V_slice HO188.out; subst eo10) | ((with_reducible refine gate_callee (f := 39) rfl ?_); refine goesL_ (some 7) rfl rfl Try.func39 (by kernel_rfl) rfl #[.int .i64 0, .slice Ao10 y186.length co10] rfl (by (try simp only [List.map_toArray, List.map_cons, List.map_nil]); first | done | rfl | (simp only [List.length_drop, List.length_take]; rfl)) ?_; (with_reducible refine (reclog_Append.calls k 0 (fun k_ => True) _ _ y186 t189 _ ?side1 A1.out).mono ?_); (case side1 => exact HO188.out); rintro e w11 ⟨v190, rfl, ho0, hb⟩; refine ⟨_, rfl, ?_⟩; have n0_ := Aside0.mk (Kd.V_elder' (by (with_reducible repeat (first | apply Kd.V_alloc | apply Kd.V_drewN | apply Kd.V_drew)); exact HO188.out) (Kd.R_base ho0) hb); have n1_ := Aside0.mk (Kd.R_lower (Kd.R_mono (ok' := fun k_ => True) ho0 (fun _ hk_ => trivial)) (below_size (by repeat (first | (with_reducible first | exact HB.out | apply below_alloc | apply pw_below_drewN | apply below_drew1) | exact HB.out)))); have n2_ := Aside0.mk (below_step (by repeat (first | (with_reducible first | exact HB.out | apply below_alloc | apply pw_below_drewN | apply below_drew1) | exact HB.out)) hb); clear HO188; clear HB; have HO188 := n0_; have HO191 := n1_; have HB := n2_; clear n0_ n1_ n2_; (try clear hb); (try clear hb2); (try clear hk); (try clear hi); (try clear ho0); obtain ⟨Ao12, co12, eo12⟩ := Kd.R_slice HO191.out; subst eo12) | ((with_reducible refine gate_callee (f := 40) rfl ?_); refine goesL_ (some 10) rfl rfl Try.func40 (by kernel_rfl) rfl #[.slice Ao12 t189.length co12] rfl (by (try simp only [List.map_toArray, List.map_cons, List.map_nil]); first | done | rfl | (simp only [List.length_drop, List.length_take]; rfl)) ?_; (with_reducible refine (reclog_Read.calls k _ _ t189 t192 t193 t194 _ ?side1 ?side2 A2.out).mono ?_); (case side1 => repeat (first | exact (Kd.R_reads' HO191.out).2.2 | (with_reducible refine Kd.C_alloc ?_ _) | (with_reducible refine Kd.C_drewN ?_ _) | (with_reducible refine Kd.C_drew ?_))); (case side2 => exact (Kd.R_reads' HO191.out).2.1); rintro e w13 ⟨v195, rfl, ho0, hb⟩; refine ⟨_, rfl, ?_⟩; have n0_ := Aside0.mk (Kd.V_elder' (by (with_reducible repeat (first | apply Kd.V_alloc | apply Kd.V_drewN | apply Kd.V_drew)); exact HO188.out) (Kd.S_base ho0) hb); have n1_ := Aside0.mk (Kd.R_below (by (with_reducible repeat (first | apply Kd.R_alloc | apply Kd.R_drewN | apply Kd.R_drew)); exact HO191.out) hb); have n2_ := Aside0.mk (Kd.S_lower (Kd.S_new' ho0 (Kd.R_lt (by (with_reducible repeat (first | apply Kd.R_alloc | apply Kd.R_drewN | apply Kd.R_drew)); exact HO191.out))) (below_size (by repeat (first | (with_reducible first | exact HB.out | apply below_alloc | apply pw_below_drewN | apply below_drew1) | exact HB.out)))); have n3_ := Aside0.mk (below_step (by repeat (first | (with_reducible first | exact HB.out | apply below_alloc | apply pw_below_drewN | apply below_drew1) | exact HB.out)) hb); clear HO188; clear HO191; clear HB; have HO188 := n0_; have HO191 := n1_; have HO196 := n2_; have HB := n3_; clear n0_ n1_ n2_ n3_; (try clear hb); (try clear hb2); (try clear hk); (try clear hi); (try clear ho0); obtain ⟨Ao14, co14, eo14⟩ := Kd.S_slice HO196.out; subst eo14; have p197 : 0 ≤ (0 : Int) := (by omega); have q197 : 0 < (t192.length : Int) := of_decide_eq_true (by first | (with_reducible assumption) | assumption); obtain ⟨ad197, A197_0, c197_0, e197, hx197_0, hl197_0, hi197_0⟩ := at_L1 (Kd.S_reads' HO196.out).2.2 0 p197 q197; cases e197; obtain ⟨ce197, hce197, hMe197, hcc197⟩ := Kd.S_get HO196.out [] 0 p197 (by first | exact q197 | exact of_decide_eq_true (by first | (with_reducible assumption) | assumption) | (have e_ := (Kd.S_reads' HO196.out).1; omega)); obtain ⟨ve197_0, rfl, ge197_0⟩ := hMe197; have hv197_0 := hcc197 0 _ rfl; rw [Nat.add_zero, show ((Kd.slice 5 (Kd.int .u8))).sz = 1 from rfl, Nat.mul_one] at hv197_0; replace hv197_0 := Option.some.inj (hv197_0.symm.trans hx197_0); rw [hv197_0] at ge197_0; have HL197_0 := Aside0.mk (show Kd.R (Kd.int .u8) 5 _ _ _ _ (rd_L1 t192 0) from ge197_0); clear hv197_0 ge197_0; clear hcc197 hce197; have qi197 : (0 < t192.length) = True := eq_true (by omega); (try rw [show ((0 : Int)).toNat = 0 from rfl] at hx197_0); (try rw [Addr.add_zero'] at hx197_0); have HR197_0 := Aside0.mk hi197_0; have HC197_0 := Aside0.mk hl197_0; clear hi197_0 hl197_0; replace p197 := eq_true p197; replace q197 := eq_true q197; (try have hcv15 := fun n_ => Kd.C_string (P := Try.prog) (A := A197_0) (c := c197_0) Try.underlying41 Try.underlying5 Try.underlying9 (Kd.C_drewN (by repeat (first | (with_reducible exact HR197_0.out) | (with_reducible refine Kd.C_alloc ?_ _) | (with_reducible refine Kd.C_drewN ?_ _) | (with_reducible refine Kd.C_drew ?_) | exact HR197_0.out)) n_)); have hcv16 := Kd.C_string (P := Try.prog) (A := A197_0) (c := c197_0) Try.underlying41 Try.underlying5 Try.underlying9 (by repeat (first | (with_reducible exact HR197_0.out) | (with_reducible refine Kd.C_alloc ?_ _) | (with_reducible refine Kd.C_drewN ?_ _) | (with_reducible refine Kd.C_drew ?_) | exact HR197_0.out))))
            go_ret
            exact ⟨by first | rfl | (simp [errW_none, errW_some] <;> rfl) | (simp [*, errW_none, errW_some] <;> rfl), by repeat (first | (with_reducible first | exact HB.out | apply below_alloc | apply pw_below_drewN | apply below_drew1) | exact HB.out)⟩
          · rw [if_neg c7] at H
            have c7b0 : (t193 == 9) = false := beq_eq_false_iff_ne.mpr c7
            have c7b1 : (t193 != 9) = true := bne_iff_ne.mpr c7
            obtain rfl := Option.some.inj H
            simp only [Option.some.injEq, Prod.mk.injEq] at H
            obtain ⟨rfl⟩ := H
            go_enter Try.func36, Try.ntmps36
            go_wp2_with (first | ((with_reducible refine gate_dst (N := 6) rfl ?_); (try (refine gate_guard (by rfl) ?_; dsimp only)); refine lit_bytes 41 5 w.heap.size rfl (N := 6) rfl (x := .tmp 5) rfl Try.underlying41 Try.underlying5 ([97, 98] : List Int) rfl rfl (by decide) ?_; intro v187 w17 ho18 hb; (first | rw [← Ny186.out] at ho18 | (simp only [Int.reduceToNat] at ho18; rw [← Ny186.out] at ho18)); have n0_ := Aside0.mk (Kd.V_lower (Kd.V_mono (ok' := fun k_ => True) ho18 (fun k_ hk_ => trivial)) (below_size (by repeat (first | (with_reducible first | exact HB.out | apply below_alloc | apply pw_below_drewN | apply below_drew1) | exact HB.out)))); have n1_ := Aside0.mk (below_step (by repeat (first | (with_reducible first | exact HB.out | apply below_alloc | apply pw_below_drewN | apply below_drew1) | exact HB.out)) hb); clear HB; have HO188 := n0_; have HB := n1_; clear n0_ n1_; clear hb ho18; obtain ⟨Ao19, co19, eo19⟩ := Kd.V_slice HO188.out; subst eo19) | ((with_reducible refine gate_callee (f := 39) rfl ?_); refine goesL_ (some 7) rfl rfl Try.func39 (by kernel_rfl) rfl #[.int .i64 0, .slice Ao19 y186.length co19] rfl (by (try simp only [List.map_toArray, List.map_cons, List.map_nil]); first | done | rfl | (simp only [List.length_drop, List.length_take]; rfl)) ?_; (with_reducible refine (reclog_Append.calls k 0 (fun k_ => True) _ _ y186 t189 _ ?side1 A1.out).mono ?_); (case side1 => exact HO188.out); rintro e w20 ⟨v190, rfl, ho0, hb⟩; refine ⟨_, rfl, ?_⟩; have n0_ := Aside0.mk (Kd.V_elder' (by (with_reducible repeat (first | apply Kd.V_alloc | apply Kd.V_drewN | apply Kd.V_drew)); exact HO188.out) (Kd.R_base ho0) hb); have n1_ := Aside0.mk (Kd.R_lower (Kd.R_mono (ok' := fun k_ => True) ho0 (fun _ hk_ => trivial)) (below_size (by repeat (first | (with_reducible first | exact HB.out | apply below_alloc | apply pw_below_drewN | apply below_drew1) | exact HB.out)))); have n2_ := Aside0.mk (below_step (by repeat (first | (with_reducible first | exact HB.out | apply below_alloc | apply pw_below_drewN | apply below_drew1) | exact HB.out)) hb); clear HO188; clear HB; have HO188 := n0_; have HO191 := n1_; have HB := n2_; clear n0_ n1_ n2_; (try clear hb); (try clear hb2); (try clear hk); (try clear hi); (try clear ho0); obtain ⟨Ao21, co21, eo21⟩ := Kd.R_slice HO191.out; subst eo21) | ((with_reducible refine gate_callee (f := 40) rfl ?_); refine goesL_ (some 10) rfl rfl Try.func40 (by kernel_rfl) rfl #[.slice Ao21 t189.length co21] rfl (by (try simp only [List.map_toArray, List.map_cons, List.map_nil]); first | done | rfl | (simp only [List.length_drop, List.length_take]; rfl)) ?_; (with_reducible refine (reclog_Read.calls k _ _ t189 t192 t193 t194 _ ?side1 ?side2 A2.out).mono ?_); (case side1 => repeat (first | exact (Kd.R_reads' HO191.out).2.2 | (with_reducible refine Kd.C_alloc ?_ _) | (with_reducible refine Kd.C_drewN ?_ _) | (with_reducible refine Kd.C_drew ?_))); (case side2 => exact (Kd.R_reads' HO191.out).2.1); rintro e w22 ⟨v195, rfl, ho0, hb⟩; refine ⟨_, rfl, ?_⟩; have n0_ := Aside0.mk (Kd.V_elder' (by (with_reducible repeat (first | apply Kd.V_alloc | apply Kd.V_drewN | apply Kd.V_drew)); exact HO188.out) (Kd.S_base ho0) hb); have n1_ := Aside0.mk (Kd.R_below (by (with_reducible repeat (first | apply Kd.R_alloc | apply Kd.R_drewN | apply Kd.R_drew)); exact HO191.out) hb); have n2_ := Aside0.mk (Kd.S_lower (Kd.S_new' ho0 (Kd.R_lt (by (with_reducible repeat (first | apply Kd.R_alloc | apply Kd.R_drewN | apply Kd.R_drew)); exact HO191.out))) (below_size (by repeat (first | (with_reducible first | exact HB.out | apply below_alloc | apply pw_below_drewN | apply below_drew1) | exact HB.out)))); have n3_ := Aside0.mk (below_step (by repeat (first | (with_reducible first | exact HB.out | apply below_alloc | apply pw_below_drewN | apply below_drew1) | exact HB.out)) hb); clear HO188; clear HO191; clear HB; have HO188 := n0_; have HO191 := n1_; have HO196 := n2_; have HB := n3_; clear n0_ n1_ n2_ n3_; (try clear hb); (try clear hb2); (try clear hk); (try clear hi); (try clear ho0); obtain ⟨Ao23, co23, eo23⟩ := Kd.S_slice HO196.out; subst eo23; have p197 : 0 ≤ (0 : Int) := (by omega); have q197 : 0 < (t192.length : Int) := of_decide_eq_true (by first | (with_reducible assumption) | assumption); obtain ⟨ad197, A197_0, c197_0, e197, hx197_0, hl197_0, hi197_0⟩ := at_L1 (Kd.S_reads' HO196.out).2.2 0 p197 q197; cases e197; obtain ⟨ce197, hce197, hMe197, hcc197⟩ := Kd.S_get HO196.out [] 0 p197 (by first | exact q197 | exact of_decide_eq_true (by first | (with_reducible assumption) | assumption) | (have e_ := (Kd.S_reads' HO196.out).1; omega)); obtain ⟨ve197_0, rfl, ge197_0⟩ := hMe197; have hv197_0 := hcc197 0 _ rfl; rw [Nat.add_zero, show ((Kd.slice 5 (Kd.int .u8))).sz = 1 from rfl, Nat.mul_one] at hv197_0; replace hv197_0 := Option.some.inj (hv197_0.symm.trans hx197_0); rw [hv197_0] at ge197_0; have HL197_0 := Aside0.mk (show Kd.R (Kd.int .u8) 5 _ _ _ _ (rd_L1 t192 0) from ge197_0); clear hv197_0 ge197_0; clear hcc197 hce197; have qi197 : (0 < t192.length) = True := eq_true (by omega); (try rw [show ((0 : Int)).toNat = 0 from rfl] at hx197_0); (try rw [Addr.add_zero'] at hx197_0); have HR197_0 := Aside0.mk hi197_0; have HC197_0 := Aside0.mk hl197_0; clear hi197_0 hl197_0; replace p197 := eq_true p197; replace q197 := eq_true q197; (try have hcv24 := fun n_ => Kd.C_string (P := Try.prog) (A := A197_0) (c := c197_0) Try.underlying41 Try.underlying5 Try.underlying9 (Kd.C_drewN (by repeat (first | (with_reducible exact HR197_0.out) | (with_reducible refine Kd.C_alloc ?_ _) | (with_reducible refine Kd.C_drewN ?_ _) | (with_reducible refine Kd.C_drew ?_) | exact HR197_0.out)) n_)); have hcv25 := Kd.C_string (P := Try.prog) (A := A197_0) (c := c197_0) Try.underlying41 Try.underlying5 Try.underlying9 (by repeat (first | (with_reducible exact HR197_0.out) | (with_reducible refine Kd.C_alloc ?_ _) | (with_reducible refine Kd.C_drewN ?_ _) | (with_reducible refine Kd.C_drew ?_) | exact HR197_0.out))))
            go_ret
            exact ⟨by first | rfl | (simp [errW_none, errW_some] <;> rfl) | (simp [*, errW_none, errW_some] <;> rfl), by repeat (first | (with_reducible first | exact HB.out | apply below_alloc | apply pw_below_drewN | apply below_drew1) | exact HB.out)⟩
        · rw [if_neg c6] at H
          have c6b0 : ((strOfNums (rd_L1 t192 0)).toList == ([97, 98] : List UInt8)) = false := beq_eq_false_iff_ne.mpr c6
          have c6b1 : ((strOfNums (rd_L1 t192 0)).toList != ([97, 98] : List UInt8)) = true := bne_iff_ne.mpr c6
          obtain rfl := Option.some.inj H
          simp only [Option.some.injEq, Prod.mk.injEq] at H
          obtain ⟨rfl⟩ := H
          go_enter Try.func36, Try.ntmps36
          go_wp2_with (first | ((with_reducible refine gate_dst (N := 6) rfl ?_); (try (refine gate_guard (by rfl) ?_; dsimp only)); refine lit_bytes 41 5 w.heap.size rfl (N := 6) rfl (x := .tmp 5) rfl Try.underlying41 Try.underlying5 ([97, 98] : List Int) rfl rfl (by decide) ?_; intro v187 w26 ho27 hb; (first | rw [← Ny186.out] at ho27 | (simp only [Int.reduceToNat] at ho27; rw [← Ny186.out] at ho27)); have n0_ := Aside0.mk (Kd.V_lower (Kd.V_mono (ok' := fun k_ => True) ho27 (fun k_ hk_ => trivial)) (below_size (by repeat (first | (with_reducible first | exact HB.out | apply below_alloc | apply pw_below_drewN | apply below_drew1) | exact HB.out)))); have n1_ := Aside0.mk (below_step (by repeat (first | (with_reducible first | exact HB.out | apply below_alloc | apply pw_below_drewN | apply below_drew1) | exact HB.out)) hb); clear HB; have HO188 := n0_; have HB := n1_; clear n0_ n1_; clear hb ho27; obtain ⟨Ao28, co28, eo28⟩ := Kd.V_slice HO188.out; subst eo28) | ((with_reducible refine gate_callee (f := 39) rfl ?_); refine goesL_ (some 7) rfl rfl Try.func39 (by kernel_rfl) rfl #[.int .i64 0, .slice Ao28 y186.length co28] rfl (by (try simp only [List.map_toArray, List.map_cons, List.map_nil]); first | done | rfl | (simp only [List.length_drop, List.length_take]; rfl)) ?_; (with_reducible refine (reclog_Append.calls k 0 (fun k_ => True) _ _ y186 t189 _ ?side1 A1.out).mono ?_); (case side1 => exact HO188.out); rintro e w29 ⟨v190, rfl, ho0, hb⟩; refine ⟨_, rfl, ?_⟩; have n0_ := Aside0.mk (Kd.V_elder' (by (with_reducible repeat (first | apply Kd.V_alloc | apply Kd.V_drewN | apply Kd.V_drew)); exact HO188.out) (Kd.R_base ho0) hb); have n1_ := Aside0.mk (Kd.R_lower (Kd.R_mono (ok' := fun k_ => True) ho0 (fun _ hk_ => trivial)) (below_size (by repeat (first | (with_reducible first | exact HB.out | apply below_alloc | apply pw_below_drewN | apply below_drew1) | exact HB.out)))); have n2_ := Aside0.mk (below_step (by repeat (first | (with_reducible first | exact HB.out | apply below_alloc | apply pw_below_drewN | apply below_drew1) | exact HB.out)) hb); clear HO188; clear HB; have HO188 := n0_; have HO191 := n1_; have HB := n2_; clear n0_ n1_ n2_; (try clear hb); (try clear hb2); (try clear hk); (try clear hi); (try clear ho0); obtain ⟨Ao30, co30, eo30⟩ := Kd.R_slice HO191.out; subst eo30) | ((with_reducible refine gate_callee (f := 40) rfl ?_); refine goesL_ (some 10) rfl rfl Try.func40 (by kernel_rfl) rfl #[.slice Ao30 t189.length co30] rfl (by (try simp only [List.map_toArray, List.map_cons, List.map_nil]); first | done | rfl | (simp only [List.length_drop, List.length_take]; rfl)) ?_; (with_reducible refine (reclog_Read.calls k _ _ t189 t192 t193 t194 _ ?side1 ?side2 A2.out).mono ?_); (case side1 => repeat (first | exact (Kd.R_reads' HO191.out).2.2 | (with_reducible refine Kd.C_alloc ?_ _) | (with_reducible refine Kd.C_drewN ?_ _) | (with_reducible refine Kd.C_drew ?_))); (case side2 => exact (Kd.R_reads' HO191.out).2.1); rintro e w31 ⟨v195, rfl, ho0, hb⟩; refine ⟨_, rfl, ?_⟩; have n0_ := Aside0.mk (Kd.V_elder' (by (with_reducible repeat (first | apply Kd.V_alloc | apply Kd.V_drewN | apply Kd.V_drew)); exact HO188.out) (Kd.S_base ho0) hb); have n1_ := Aside0.mk (Kd.R_below (by (with_reducible repeat (first | apply Kd.R_alloc | apply Kd.R_drewN | apply Kd.R_drew)); exact HO191.out) hb); have n2_ := Aside0.mk (Kd.S_lower (Kd.S_new' ho0 (Kd.R_lt (by (with_reducible repeat (first | apply Kd.R_alloc | apply Kd.R_drewN | apply Kd.R_drew)); exact HO191.out))) (below_size (by repeat (first | (with_reducible first | exact HB.out | apply below_alloc | apply pw_below_drewN | apply below_drew1) | exact HB.out)))); have n3_ := Aside0.mk (below_step (by repeat (first | (with_reducible first | exact HB.out | apply below_alloc | apply pw_below_drewN | apply below_drew1) | exact HB.out)) hb); clear HO188; clear HO191; clear HB; have HO188 := n0_; have HO191 := n1_; have HO196 := n2_; have HB := n3_; clear n0_ n1_ n2_ n3_; (try clear hb); (try clear hb2); (try clear hk); (try clear hi); (try clear ho0); obtain ⟨Ao32, co32, eo32⟩ := Kd.S_slice HO196.out; subst eo32; have p197 : 0 ≤ (0 : Int) := (by omega); have q197 : 0 < (t192.length : Int) := of_decide_eq_true (by first | (with_reducible assumption) | assumption); obtain ⟨ad197, A197_0, c197_0, e197, hx197_0, hl197_0, hi197_0⟩ := at_L1 (Kd.S_reads' HO196.out).2.2 0 p197 q197; cases e197; obtain ⟨ce197, hce197, hMe197, hcc197⟩ := Kd.S_get HO196.out [] 0 p197 (by first | exact q197 | exact of_decide_eq_true (by first | (with_reducible assumption) | assumption) | (have e_ := (Kd.S_reads' HO196.out).1; omega)); obtain ⟨ve197_0, rfl, ge197_0⟩ := hMe197; have hv197_0 := hcc197 0 _ rfl; rw [Nat.add_zero, show ((Kd.slice 5 (Kd.int .u8))).sz = 1 from rfl, Nat.mul_one] at hv197_0; replace hv197_0 := Option.some.inj (hv197_0.symm.trans hx197_0); rw [hv197_0] at ge197_0; have HL197_0 := Aside0.mk (show Kd.R (Kd.int .u8) 5 _ _ _ _ (rd_L1 t192 0) from ge197_0); clear hv197_0 ge197_0; clear hcc197 hce197; have qi197 : (0 < t192.length) = True := eq_true (by omega); (try rw [show ((0 : Int)).toNat = 0 from rfl] at hx197_0); (try rw [Addr.add_zero'] at hx197_0); have HR197_0 := Aside0.mk hi197_0; have HC197_0 := Aside0.mk hl197_0; clear hi197_0 hl197_0; replace p197 := eq_true p197; replace q197 := eq_true q197; (try have hcv33 := fun n_ => Kd.C_string (P := Try.prog) (A := A197_0) (c := c197_0) Try.underlying41 Try.underlying5 Try.underlying9 (Kd.C_drewN (by repeat (first | (with_reducible exact HR197_0.out) | (with_reducible refine Kd.C_alloc ?_ _) | (with_reducible refine Kd.C_drewN ?_ _) | (with_reducible refine Kd.C_drew ?_) | exact HR197_0.out)) n_)); have hcv34 := Kd.C_string (P := Try.prog) (A := A197_0) (c := c197_0) Try.underlying41 Try.underlying5 Try.underlying9 (by repeat (first | (with_reducible exact HR197_0.out) | (with_reducible refine Kd.C_alloc ?_ _) | (with_reducible refine Kd.C_drewN ?_ _) | (with_reducible refine Kd.C_drew ?_) | exact HR197_0.out))))
          go_ret
          exact ⟨by first | rfl | (simp [errW_none, errW_some] <;> rfl) | (simp [*, errW_none, errW_some] <;> rfl), by repeat (first | (with_reducible first | exact HB.out | apply below_alloc | apply pw_below_drewN | apply below_drew1) | exact HB.out)⟩
      · rw [if_neg c5] at H
        exact absurd H (by simp)
    · rw [if_neg c4] at H
      have c4b0 : ((t192.length : Int) == 1) = false := beq_eq_false_iff_ne.mpr c4
      have c4b1 : ((t192.length : Int) != 1) = true := bne_iff_ne.mpr c4
      obtain rfl := Option.some.inj H
      simp only [Option.some.injEq, Prod.mk.injEq] at H
      obtain ⟨rfl⟩ := H
      go_enter Try.func36, Try.ntmps36
      go_wp2_with (first | ((with_reducible refine gate_dst (N := 6) rfl ?_); (try (refine gate_guard (by rfl) ?_; dsimp only)); refine lit_bytes 41 5 w.heap.size rfl (N := 6) rfl (x := .tmp 5) rfl Try.underlying41 Try.underlying5 ([97, 98] : List Int) rfl rfl (by decide) ?_; intro v187 w35 ho36 hb; (first | rw [← Ny186.out] at ho36 | (simp only [Int.reduceToNat] at ho36; rw [← Ny186.out] at ho36)); have n0_ := Aside0.mk (Kd.V_lower (Kd.V_mono (ok' := fun k_ => True) ho36 (fun k_ hk_ => trivial)) (below_size (by repeat (first | (with_reducible first | exact HB.out | apply below_alloc | apply pw_below_drewN | apply below_drew1) | exact HB.out)))); have n1_ := Aside0.mk (below_step (by repeat (first | (with_reducible first | exact HB.out | apply below_alloc | apply pw_below_drewN | apply below_drew1) | exact HB.out)) hb); clear HB; have HO188 := n0_; have HB := n1_; clear n0_ n1_; clear hb ho36; obtain ⟨Ao37, co37, eo37⟩ := Kd.V_slice HO188.out; subst eo37) | ((with_reducible refine gate_callee (f := 39) rfl ?_); refine goesL_ (some 7) rfl rfl Try.func39 (by kernel_rfl) rfl #[.int .i64 0, .slice Ao37 y186.length co37] rfl (by (try simp only [List.map_toArray, List.map_cons, List.map_nil]); first | done | rfl | (simp only [List.length_drop, List.length_take]; rfl)) ?_; (with_reducible refine (reclog_Append.calls k 0 (fun k_ => True) _ _ y186 t189 _ ?side1 A1.out).mono ?_); (case side1 => exact HO188.out); rintro e w38 ⟨v190, rfl, ho0, hb⟩; refine ⟨_, rfl, ?_⟩; have n0_ := Aside0.mk (Kd.V_elder' (by (with_reducible repeat (first | apply Kd.V_alloc | apply Kd.V_drewN | apply Kd.V_drew)); exact HO188.out) (Kd.R_base ho0) hb); have n1_ := Aside0.mk (Kd.R_lower (Kd.R_mono (ok' := fun k_ => True) ho0 (fun _ hk_ => trivial)) (below_size (by repeat (first | (with_reducible first | exact HB.out | apply below_alloc | apply pw_below_drewN | apply below_drew1) | exact HB.out)))); have n2_ := Aside0.mk (below_step (by repeat (first | (with_reducible first | exact HB.out | apply below_alloc | apply pw_below_drewN | apply below_drew1) | exact HB.out)) hb); clear HO188; clear HB; have HO188 := n0_; have HO191 := n1_; have HB := n2_; clear n0_ n1_ n2_; (try clear hb); (try clear hb2); (try clear hk); (try clear hi); (try clear ho0); obtain ⟨Ao39, co39, eo39⟩ := Kd.R_slice HO191.out; subst eo39) | ((with_reducible refine gate_callee (f := 40) rfl ?_); refine goesL_ (some 10) rfl rfl Try.func40 (by kernel_rfl) rfl #[.slice Ao39 t189.length co39] rfl (by (try simp only [List.map_toArray, List.map_cons, List.map_nil]); first | done | rfl | (simp only [List.length_drop, List.length_take]; rfl)) ?_; (with_reducible refine (reclog_Read.calls k _ _ t189 t192 t193 t194 _ ?side1 ?side2 A2.out).mono ?_); (case side1 => repeat (first | exact (Kd.R_reads' HO191.out).2.2 | (with_reducible refine Kd.C_alloc ?_ _) | (with_reducible refine Kd.C_drewN ?_ _) | (with_reducible refine Kd.C_drew ?_))); (case side2 => exact (Kd.R_reads' HO191.out).2.1); rintro e w40 ⟨v195, rfl, ho0, hb⟩; refine ⟨_, rfl, ?_⟩; have n0_ := Aside0.mk (Kd.V_elder' (by (with_reducible repeat (first | apply Kd.V_alloc | apply Kd.V_drewN | apply Kd.V_drew)); exact HO188.out) (Kd.S_base ho0) hb); have n1_ := Aside0.mk (Kd.R_below (by (with_reducible repeat (first | apply Kd.R_alloc | apply Kd.R_drewN | apply Kd.R_drew)); exact HO191.out) hb); have n2_ := Aside0.mk (Kd.S_lower (Kd.S_new' ho0 (Kd.R_lt (by (with_reducible repeat (first | apply Kd.R_alloc | apply Kd.R_drewN | apply Kd.R_drew)); exact HO191.out))) (below_size (by repeat (first | (with_reducible first | exact HB.out | apply below_alloc | apply pw_below_drewN | apply below_drew1) | exact HB.out)))); have n3_ := Aside0.mk (below_step (by repeat (first | (with_reducible first | exact HB.out | apply below_alloc | apply pw_below_drewN | apply below_drew1) | exact HB.out)) hb); clear HO188; clear HO191; clear HB; have HO188 := n0_; have HO191 := n1_; have HO196 := n2_; have HB := n3_; clear n0_ n1_ n2_ n3_; (try clear hb); (try clear hb2); (try clear hk); (try clear hi); (try clear ho0); obtain ⟨Ao41, co41, eo41⟩ := Kd.S_slice HO196.out; subst eo41))
      go_ret
      exact ⟨by first | rfl | (simp [errW_none, errW_some] <;> rfl) | (simp [*, errW_none, errW_some] <;> rfl), by repeat (first | (with_reducible first | exact HB.out | apply below_alloc | apply pw_below_drewN | apply below_drew1) | exact HB.out)⟩
  · rw [if_neg c3] at H
    have c3b0 : ((t189.length : Int) == 9) = false := beq_eq_false_iff_ne.mpr c3
    have c3b1 : ((t189.length : Int) != 9) = true := bne_iff_ne.mpr c3
    obtain rfl := Option.some.inj H
    simp only [Option.some.injEq, Prod.mk.injEq] at H
    obtain ⟨rfl⟩ := H
    go_enter Try.func36, Try.ntmps36
    go_wp2_with (first | ((with_reducible refine gate_dst (N := 6) rfl ?_); (try (refine gate_guard (by rfl) ?_; dsimp only)); refine lit_bytes 41 5 w.heap.size rfl (N := 6) rfl (x := .tmp 5) rfl Try.underlying41 Try.underlying5 ([97, 98] : List Int) rfl rfl (by decide) ?_; intro v187 w42 ho43 hb; (first | rw [← Ny186.out] at ho43 | (simp only [Int.reduceToNat] at ho43; rw [← Ny186.out] at ho43)); have n0_ := Aside0.mk (Kd.V_lower (Kd.V_mono (ok' := fun k_ => True) ho43 (fun k_ hk_ => trivial)) (below_size (by repeat (first | (with_reducible first | exact HB.out | apply below_alloc | apply pw_below_drewN | apply below_drew1) | exact HB.out)))); have n1_ := Aside0.mk (below_step (by repeat (first | (with_reducible first | exact HB.out | apply below_alloc | apply pw_below_drewN | apply below_drew1) | exact HB.out)) hb); clear HB; have HO188 := n0_; have HB := n1_; clear n0_ n1_; clear hb ho43; obtain ⟨Ao44, co44, eo44⟩ := Kd.V_slice HO188.out; subst eo44) | ((with_reducible refine gate_callee (f := 39) rfl ?_); refine goesL_ (some 7) rfl rfl Try.func39 (by kernel_rfl) rfl #[.int .i64 0, .slice Ao44 y186.length co44] rfl (by (try simp only [List.map_toArray, List.map_cons, List.map_nil]); first | done | rfl | (simp only [List.length_drop, List.length_take]; rfl)) ?_; (with_reducible refine (reclog_Append.calls k 0 (fun k_ => True) _ _ y186 t189 _ ?side1 A1.out).mono ?_); (case side1 => exact HO188.out); rintro e w45 ⟨v190, rfl, ho0, hb⟩; refine ⟨_, rfl, ?_⟩; have n0_ := Aside0.mk (Kd.V_elder' (by (with_reducible repeat (first | apply Kd.V_alloc | apply Kd.V_drewN | apply Kd.V_drew)); exact HO188.out) (Kd.R_base ho0) hb); have n1_ := Aside0.mk (Kd.R_lower (Kd.R_mono (ok' := fun k_ => True) ho0 (fun _ hk_ => trivial)) (below_size (by repeat (first | (with_reducible first | exact HB.out | apply below_alloc | apply pw_below_drewN | apply below_drew1) | exact HB.out)))); have n2_ := Aside0.mk (below_step (by repeat (first | (with_reducible first | exact HB.out | apply below_alloc | apply pw_below_drewN | apply below_drew1) | exact HB.out)) hb); clear HO188; clear HB; have HO188 := n0_; have HO191 := n1_; have HB := n2_; clear n0_ n1_ n2_; (try clear hb); (try clear hb2); (try clear hk); (try clear hi); (try clear ho0); obtain ⟨Ao46, co46, eo46⟩ := Kd.R_slice HO191.out; subst eo46) | ((with_reducible refine gate_callee (f := 40) rfl ?_); refine goesL_ (some 10) rfl rfl Try.func40 (by kernel_rfl) rfl #[.slice Ao46 t189.length co46] rfl (by (try simp only [List.map_toArray, List.map_cons, List.map_nil]); first | done | rfl | (simp only [List.length_drop, List.length_take]; rfl)) ?_; (with_reducible refine (reclog_Read.calls k _ _ t189 t192 t193 t194 _ ?side1 ?side2 A2.out).mono ?_); (case side1 => repeat (first | exact (Kd.R_reads' HO191.out).2.2 | (with_reducible refine Kd.C_alloc ?_ _) | (with_reducible refine Kd.C_drewN ?_ _) | (with_reducible refine Kd.C_drew ?_))); (case side2 => exact (Kd.R_reads' HO191.out).2.1); rintro e w47 ⟨v195, rfl, ho0, hb⟩; refine ⟨_, rfl, ?_⟩; have n0_ := Aside0.mk (Kd.V_elder' (by (with_reducible repeat (first | apply Kd.V_alloc | apply Kd.V_drewN | apply Kd.V_drew)); exact HO188.out) (Kd.S_base ho0) hb); have n1_ := Aside0.mk (Kd.R_below (by (with_reducible repeat (first | apply Kd.R_alloc | apply Kd.R_drewN | apply Kd.R_drew)); exact HO191.out) hb); have n2_ := Aside0.mk (Kd.S_lower (Kd.S_new' ho0 (Kd.R_lt (by (with_reducible repeat (first | apply Kd.R_alloc | apply Kd.R_drewN | apply Kd.R_drew)); exact HO191.out))) (below_size (by repeat (first | (with_reducible first | exact HB.out | apply below_alloc | apply pw_below_drewN | apply below_drew1) | exact HB.out)))); have n3_ := Aside0.mk (below_step (by repeat (first | (with_reducible first | exact HB.out | apply below_alloc | apply pw_below_drewN | apply below_drew1) | exact HB.out)) hb); clear HO188; clear HO191; clear HB; have HO188 := n0_; have HO191 := n1_; have HO196 := n2_; have HB := n3_; clear n0_ n1_ n2_ n3_; (try clear hb); (try clear hb2); (try clear hk); (try clear hi); (try clear ho0)))
    go_ret
    exact ⟨by first | rfl | (simp [errW_none, errW_some] <;> rfl) | (simp [*, errW_none, errW_some] <;> rfl), by repeat (first | (with_reducible first | exact HB.out | apply below_alloc | apply pw_below_drewN | apply below_drew1) | exact HB.out)⟩

end Go.Proofs.Ytcijcfdllfaghaa.MRec
