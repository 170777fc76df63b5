import Derived.Test.YtoglanahjlfihaaHBlk10
namespace Go.Proofs.Ytoglanahjlfihaa.MBlk
open Go.RowKit Go.Proofs.Ytoglanahjlfihaa.QBlk Go.Proofs.YtoglanahjlfihaaW.PrintWords Go.Proofs.YtoglanahjlfihaaW.PrintLast Go.Proofs.YtoglanahjlfihaaW.PrintMore
set_option linter.unusedVariables false
set_option linter.unusedSimpArgs false
/-- The place of the first row that is not below a key. -/
def seekI : List S68 → ByteArray → Nat
  | [], _ => 0
  | r :: t, key => if Op.bytesLess r.f0.toList key.toList then seekI t key + 1 else 0
def seekR (res : Option (List S68)) (key : ByteArray) : Int := match res with | none => -1 | some L => (seekI L key : Int)
def seekE (res : Option (List S68)) : Int := match res with | none => 8 | some _ => 0
set_option maxHeartbeats 8000000 in
set_option maxRecDepth 100000 in
theorem block_Seek.calls (A0 : Option Addr) (c0 : Nat) (l : List Int) (key : ByteArray) (w : World) (hr0 : Kd.C (Kd.int .u8) w A0 l.length l) (hc0 : l.length ≤ c0) (hby : Bytes l) (hl : l.length ≤ 30000) (res : Option (List S68)) (h : readS l = res) :
    Calls Try.prog 43 #[.slice A0 l.length c0, .string key] w fun e w' => e = .returned (.tuple #[.int .i64 (seekR res key), .int .i64 (seekE res)]) ∧ Below w.heap.size w w' := by
  have HR := Aside0.mk hr0
  have HBY := Aside0.mk hby
  have HH := Aside0.mk h
  clear hr0 hby h
  go_enter Try.func43, Try.ntmps43
  go_wp2_with (fail)
  refine (block_Read.calls A0 c0 l w HR.out hc0 HBY.out hl res HH.out).mono ?_
  rintro e w1 ⟨v, er, rfl, hb1, hv⟩
  cases res with
  | none =>
    obtain ⟨rfl, rfl⟩ := hv
    go_wp2_with (fail)
    go_ret2
    exact ⟨rfl, hb1⟩
  | some L =>
    obtain ⟨rfl, hR⟩ := hv
    obtain ⟨A4, c4, e4⟩ := Kd.R_slice hR
    subst e4
    have HC := Aside0.mk (Kd.R_reads' hR).2.2
    have HB := Aside0.mk hb1
    have hmx := (Kd.R_reads' hR).2.2.2.1
    clear hR hb1
    go_wp2_with (fail)
    go_loopg [20] L.length (fun kx s20 wr => ∃ i : Nat, s20 = .int .i64 i ∧ i + kx = L.length ∧ Aside0 (seekI (L.drop i) key + i = seekI L key) ∧ Aside0 (Below w1.heap.size w1 wr))
    case atStart => exact ⟨0, rfl, by omega, ⟨rfl⟩, ⟨Below.refl _ _⟩⟩
    case round =>
      obtain ⟨i, rfl, hi, HS, HW⟩ := hrel
      cases gk with
      | zero =>
        have hit : ((i : Int) < (L.length : Int)) = False := eq_false (by omega)
        have hse : seekI L key = L.length := by
          have h_ := HS.out
          rw [List.drop_eq_nil_of_le (by omega), seekI] at h_
          omega
        go_wp2_with (fail)
        go_ret2
        exact ⟨by show _ = Ending.returned (.tuple #[.int .i64 ((seekI L key : Nat) : Int), .int .i64 0]); rw [hse]; rfl, below_step HB.out HW.out⟩
      | succ kk =>
        have hit : ((i : Int) < (L.length : Int)) = True := eq_true (by omega)
        have hi0 : ((0 : Int) ≤ (i : Int)) = True := eq_true (by omega)
        have hi1 : (i < L.length) = True := eq_true (by omega)
        obtain ⟨ad, rfl, g0, g1⟩ := at_T68 (Kd.C_below HC.out HW.out) (i : Int) (by omega) (by omega)
        rw [Int.toNat_natCast] at g0
        simp only [Int.toNat_natCast] at g1
        have hw64 : IntKind.i64.wrap ((i : Int) + 1) = ((i + 1 : Nat) : Int) := i64id (by omega)
        have hdi : L.drop i = rd_T68 L (i : Int) :: L.drop (i + 1) := by
          unfold rd_T68
          rw [Int.toNat_natCast, List.drop_eq_getElem_cons (by omega), List.getD_eq_getElem?_getD, List.getElem?_eq_getElem (by omega)]; rfl
        have h_ := HS.out
        rw [hdi, seekI] at h_
        clear hdi HS
        generalize rd_T68 L (i : Int) = y at h_ g0 g1
        by_cases hlt : Op.bytesLess y.f0.toList key.toList = true
        · have hge : binOp .geq 9 (.string y.f0) (.string key) = pure (.bool false) := by rw [binOp_string_geq_, hlt]; rfl
          rw [if_pos hlt] at h_
          have HS : Aside0 (seekI (L.drop (i + 1)) key + (i + 1) = seekI L key) := ⟨by omega⟩
          clear h_ hlt
          go_wp2_with (fail)
          go_roundg kk
          case measure => omega
          case rel => exact ⟨i + 1, rfl, by omega, HS, ⟨below_alloc HW.out _⟩⟩
        · have hge : binOp .geq 9 (.string y.f0) (.string key) = pure (.bool true) := by rw [binOp_string_geq_, Bool.eq_false_iff.mpr hlt]; rfl
          rw [if_neg hlt, Nat.zero_add] at h_
          have HS := Aside0.mk h_
          clear h_ hlt
          go_wp2_with (fail)
          go_ret2
          exact ⟨by show _ = Ending.returned (.tuple #[.int .i64 ((seekI L key : Nat) : Int), .int .i64 0]); rw [← HS.out]; rfl, below_step HB.out (below_alloc HW.out _)⟩
end Go.Proofs.Ytoglanahjlfihaa.MBlk
