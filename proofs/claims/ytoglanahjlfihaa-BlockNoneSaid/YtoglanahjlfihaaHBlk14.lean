import Derived.Test.YtoglanahjlfihaaHBlk13
namespace Go.Proofs.Ytoglanahjlfihaa.MBlk
open Go.RowKit Go.Proofs.Ytoglanahjlfihaa.QBlk Go.Proofs.YtoglanahjlfihaaW.PrintWords Go.Proofs.YtoglanahjlfihaaW.PrintLast Go.Proofs.YtoglanahjlfihaaW.PrintMore
set_option linter.unusedVariables false
set_option linter.unusedSimpArgs false
theorem none_read : readS St0.out = some [] := by
  refine readS_out [] (fun r hr => absurd hr (by simp)) rfl (by decide)
theorem none_bytes : Bytes St0.out := fix_bytes 4 0
theorem none_len : St0.out.length = 4 := rfl
theorem nil_read : readS [] = none := rfl
set_option maxHeartbeats 8000000 in
set_option maxRecDepth 100000 in
theorem incipitlaw16_BlockNone.calls (w : World) : Calls Try.prog 11 #[] w fun e w' => e = .returned (.bool true) ∧ Below w.heap.size w w' := by
  have hu63 := Try.underlying63
  go_enter Try.func11, Try.ntmps11
  go_wp2_with (fail)
  refine (block_NewS.calls w w (Below.refl _ _)).mono ?_
  rintro e w1 ⟨g, rfl, hI, _, _⟩
  have HI := Aside0.mk hI
  clear hI
  go_wp2_with (fail)
  refine (block_BytesS.calls w w1 g St0 HI.out (by decide) (by decide)).mono ?_
  rintro e w5 ⟨v, rfl, hv, hI, hb⟩
  obtain ⟨A5, c5, e5⟩ := Kd.R_slice hv
  subst e5
  have HV := Aside0.mk hv
  have HB := Aside0.mk (BldS.base hI)
  clear hv hI hb HI
  go_wp2_with (fail)
  refine (block_Read.calls A5 c5 St0.out w5 (Kd.R_reads' HV.out).2.2 (Kd.R_reads' HV.out).2.1 none_bytes (by rw [none_len]; decide) _ none_read).mono ?_
  rintro e w6 ⟨v, er, rfl, hb6, rfl, hL⟩
  obtain ⟨A6, c6, e6⟩ := Kd.R_slice hL
  subst e6
  have HB6 := Aside0.mk (below_step HB.out hb6)
  clear HV hL hb6 HB
  go_wp2_with (fail)
  refine (block_Read.calls none 0 [] w6 (Kd.C_nil _ _) (by decide) (fun c hc => absurd hc (by simp)) (by decide) _ nil_read).mono ?_
  rintro e w7 ⟨v, er, rfl, hb7, rfl, rfl⟩
  have HB7 := Aside0.mk (below_step HB6.out hb7)
  clear HB6 hb7
  go_wp2_with (fail)
  refine (incipitlaw16_begun.calls w7).mono ?_
  rintro e w8 ⟨rfl, hb8⟩
  have HB8 := Aside0.mk (below_step HB7.out hb8)
  clear HB7 hb8
  go_wp2_with (fail)
  refine (block_Add_nil.calls ⟨#[97]⟩ ⟨#[98]⟩ w8).mono ?_
  rintro e w9 ⟨rfl, rfl⟩
  go_wp2_with (fail)
  refine (block_Size_nil.calls w9).mono ?_
  rintro e w10 ⟨rfl, rfl⟩
  go_wp2_with (fail)
  refine (block_Bytes_nil.calls w10).mono ?_
  rintro e w11 ⟨rfl, rfl⟩
  go_wp2_with (fail)
  go_ret
  exact ⟨rfl, HB8.out⟩
end Go.Proofs.Ytoglanahjlfihaa.MBlk
