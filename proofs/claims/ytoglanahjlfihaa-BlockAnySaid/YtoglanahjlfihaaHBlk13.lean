import Derived.Test.YtoglanahjlfihaaHBlk11
import Derived.Test.YtoglanahjlfihaaHBlk12
namespace Go.Proofs.Ytoglanahjlfihaa.MBlk
open Go.RowKit Go.Proofs.Ytoglanahjlfihaa.QBlk Go.Proofs.YtoglanahjlfihaaW.PrintWords Go.Proofs.YtoglanahjlfihaaW.PrintLast Go.Proofs.YtoglanahjlfihaaW.PrintMore
set_option linter.unusedVariables false
set_option linter.unusedSimpArgs false
def bg1 : S68 := ⟨⟨#[97, 98]⟩, ⟨#[49]⟩⟩
def bg2 : S68 := ⟨⟨#[97, 99]⟩, ⟨#[50]⟩⟩
def bgS1 : St := addT St0 ⟨#[97, 98]⟩ ⟨#[49]⟩
def bgS2 : St := addT bgS1 ⟨#[97, 99]⟩ ⟨#[50]⟩
theorem bg_sh2 : bgS1.sh ⟨#[97, 99]⟩ = 1 := by decide
theorem bg_b1 : bgS1.b = [0, 2, 1, 97, 98, 49] := by
  show ([] : List Int) ++ (put 0 ++ put 2 ++ put 1) ++ [97, 98] ++ [49] = _
  rw [put_small (by decide), put_small (by decide), put_small (by decide)]
  rfl
theorem bg_b2 : bgS2.b = [0, 2, 1, 97, 98, 49, 1, 1, 1, 99, 50] := by
  show bgS1.b ++ (put (bgS1.sh ⟨#[97, 99]⟩) ++ put (2 - bgS1.sh ⟨#[97, 99]⟩) ++ put 1) ++ (bytesOf ⟨#[97, 99]⟩).drop (bgS1.sh ⟨#[97, 99]⟩) ++ [50] = _
  rw [bg_sh2, bg_b1, put_small (by decide)]
  rfl
theorem bg_p2 : bgS2.p.length = 4 := rfl
theorem bg_read : readS bgS2.out = some [bg1, bg2] := by
  refine readS_out [bg1, bg2] ?_ ?_ ?_
  · intro r hr
    simp only [List.mem_cons, List.not_mem_nil, or_false] at hr
    rcases hr with rfl | rfl <;> exact ⟨by decide, by decide⟩
  · decide +kernel
  · show bgS2.p.length < _
    rw [bg_p2]; decide
theorem bg_bytes : Bytes bgS2.out := by
  unfold St.out
  rw [bg_b2]
  refine (Bytes.append (Bytes.append ?_ ?_) (fix_bytes _ _))
  · unfold Bytes; decide
  · exact fix_bytes 4 0
theorem bg_len : bgS2.out.length = 19 := by
  unfold St.out
  rw [List.length_append, List.length_append, bg_b2, bg_p2, fix_length]
  rfl
set_option maxHeartbeats 8000000 in
set_option maxRecDepth 100000 in
theorem incipitlaw16_begun.calls (w : World) : Calls Try.prog 37 #[] w fun e w' => e = .returned (.bool true) ∧ Below w.heap.size w w' := by
  have hu63 := Try.underlying63
  go_enter Try.func37, Try.ntmps37
  go_wp2_with (fail)
  refine (block_NewS.calls w w (Below.refl _ _)).mono ?_
  rintro e w1 ⟨g, rfl, hI, _, _⟩
  have HI := Aside0.mk hI
  clear hI
  go_wp2_with (fail)
  refine (block_Add.calls w w1 g St0 ⟨#[97, 98]⟩ ⟨#[49]⟩ HI.out (by decide) (by decide) (by decide) (by decide) (by decide) (by decide)).mono ?_
  rintro e w2 ⟨rfl, hI, _⟩
  have hb1 : addB St0 ⟨#[97, 98]⟩ = true := by decide
  rw [hb1, if_pos rfl] at hI
  rw [hb1]
  have HI : Aside0 (BldS w w2 g bgS1) := Aside0.mk hI
  clear hI hb1
  go_wp2_with (fail)
  refine (block_Add.calls w w2 g bgS1 ⟨#[97, 99]⟩ ⟨#[50]⟩ HI.out (by decide) (by decide) (by decide) (by decide) (by rw [bg_b1]; decide) (by decide)).mono ?_
  rintro e w3 ⟨rfl, hI, _⟩
  have hb1 : addB bgS1 ⟨#[97, 99]⟩ = true := by decide +kernel
  rw [hb1, if_pos rfl] at hI
  rw [hb1]
  have HI : Aside0 (BldS w w3 g bgS2) := Aside0.mk hI
  clear hI hb1
  go_wp2_with (fail)
  refine (block_Add.calls w w3 g bgS2 ⟨#[97, 98]⟩ ⟨#[51]⟩ HI.out (by decide) (by decide) (by decide) (by decide) (by rw [bg_b2]; decide) (by rw [bg_p2]; decide)).mono ?_
  rintro e w4 ⟨rfl, hI, _⟩
  have hb1 : addB bgS2 ⟨#[97, 98]⟩ = false := by decide +kernel
  rw [hb1, if_neg (by decide)] at hI
  rw [hb1]
  have HI := Aside0.mk hI
  clear hI hb1
  go_wp2_with (fail)
  refine (block_BytesS.calls w w4 g bgS2 HI.out (by rw [bg_b2]; decide) (by rw [bg_p2]; decide)).mono ?_
  rintro e w5 ⟨v, rfl, hv, hI, hb⟩
  obtain ⟨A5, c5, e5⟩ := Kd.R_slice hv
  subst e5
  have HV := Aside0.mk hv
  have HI := Aside0.mk hI
  clear hv hI hb
  go_wp2_with (fail)
  refine (block_Read.calls A5 c5 bgS2.out w5 (Kd.R_reads' HV.out).2.2 (Kd.R_reads' HV.out).2.1 bg_bytes (by rw [bg_len]; decide) _ bg_read).mono ?_
  rintro e w6 ⟨v, er, rfl, hb6, rfl, hL⟩
  obtain ⟨A6, c6, e6⟩ := Kd.R_slice hL
  subst e6
  have HI6 := Aside0.mk (HI.out.below hb6)
  have HL6 := Aside0.mk hL
  clear HI HV hL hb6
  go_wp2_with (fail)
  refine (block_BytesS.calls w w6 g bgS2 HI6.out (by rw [bg_b2]; decide) (by rw [bg_p2]; decide)).mono ?_
  rintro e w7 ⟨v, rfl, hv, hI, hb⟩
  obtain ⟨A7, c7, e7⟩ := Kd.R_slice hv
  subst e7
  have HV := Aside0.mk hv
  have HI := Aside0.mk hI
  have HL7 := Aside0.mk (Kd.R_below HL6.out hb)
  clear hv hI hb HI6 HL6
  go_wp2_with (fail)
  refine (block_Seek.calls A7 c7 bgS2.out ⟨#[97, 98, 99]⟩ w7 (Kd.R_reads' HV.out).2.2 (Kd.R_reads' HV.out).2.1 bg_bytes (by rw [bg_len]; decide) _ bg_read).mono ?_
  rintro e w8 ⟨rfl, hb8⟩
  have hsk : seekR (some [bg1, bg2]) ⟨#[97, 98, 99]⟩ = 1 := by decide +kernel
  have hse : seekE (some [bg1, bg2]) = 0 := rfl
  rw [hsk, hse]
  have HI8 := Aside0.mk (HI.out.below hb8)
  have HL8 := Aside0.mk (Kd.R_below HL7.out hb8)
  clear hb8 HI HL7 HV hsk hse
  obtain ⟨ad, rfl, g0, g1⟩ := at_T68 (Kd.R_reads' HL8.out).2.2 1 (by decide) (by decide)
  have hy0 : (rd_T68 [bg1, bg2] 1).f0 = ⟨#[97, 99]⟩ := rfl
  rw [hy0] at g0
  have g0' : w8.cell? ⟨ad.block, ad.off + 2, none⟩ = some (.string ⟨#[97, 99]⟩) := g0
  clear hy0 g0 g1
  go_wp2_with (fail)
  refine (block_Size.calls w w8 g bgS2.rows bgS2.last bgS2.b bgS2.p HI8.out (by rw [bg_b2]; decide) (by rw [bg_p2]; decide)).mono ?_
  rintro e w9 ⟨rfl, hI, hb⟩
  have hsz : ((bgS2.b.length : Int) + bgS2.p.length + 4) = 19 := by rw [bg_b2, bg_p2]; rfl
  rw [hsz]
  have HB := Aside0.mk (show Below w.heap.size w w9 from BldS.base (s := bgS2) hI)
  clear hI hb HI8 HL8 g0' hsz
  go_wp2_with (fail)
  go_ret
  exact ⟨rfl, HB.out⟩
end Go.Proofs.Ytoglanahjlfihaa.MBlk
