-- Written by a program of this session for this claim (out of the translation's print); Lean checks it.
import Derived.Test.YtoglanahjlfihaaMEdtx0
import Derived.Test.YtoglanahjlfihaaMEdtx1
import Derived.Test.YtoglanahjlfihaaMEdtx2
import Derived.Test.YtoglanahjlfihaaMEdtx3
import Derived.Test.YtoglanahjlfihaaMEdtx4
import Derived.Test.YtoglanahjlfihaaMEdtx5
import Derived.Test.YtoglanahjlfihaaMEdtx7
import Derived.Test.YtoglanahjlfihaaMEdtx11
namespace Go.Proofs.Ytoglanahjlfihaa.MEdt
open Go.RowKit Go.Proofs.YtoglanahjlfihaaW.PrintWords Go.Proofs.YtoglanahjlfihaaW.PrintLast Go.Proofs.YtoglanahjlfihaaW.PrintMore
attribute [local go_sem] max2_int min2_int max_two min_two max_three min_three max_four min_four   -- for this text's walks alone
set_option linter.unusedVariables false
set_option linter.unusedSimpArgs false

set_option maxHeartbeats 80000000 in
set_option maxRecDepth 100000 in
theorem incipitlaw19_EditBytes.calls (k : Nat) (a0_0 : Int) (a0_1 : Int) (a0_2 : Int) (A0_3 : Option Addr) (c0_3 : Nat) (l0_3 : List (S55)) (A0_4 : Option Addr) (c0_4 : Nat) (l0_4 : List Int) (a1_0 : Int) (a1_1 : Int) (a1_2 : Int) (A1_3 : Option Addr) (c1_3 : Nat) (l1_3 : List (S55)) (A1_4 : Option Addr) (c1_4 : Nat) (l1_4 : List Int) (a2 : Int) (a3 : Int) (r : Bool) (w : World) (hr0_3 : Kd.C k55 w A0_3 l0_3.length l0_3) (hc0_3 : l0_3.length ≤ c0_3) (hr0_4 : Kd.C (Kd.int .i64) w A0_4 l0_4.length l0_4) (hc0_4 : l0_4.length ≤ c0_4) (hr1_3 : Kd.C k55 w A1_3 l1_3.length l1_3) (hc1_3 : l1_3.length ≤ c1_3) (hr1_4 : Kd.C (Kd.int .i64) w A1_4 l1_4.length l1_4) (hc1_4 : l1_4.length ≤ c1_4) (hrt : r = true) (h : incipitlaw19_EditBytes.f k a0_0 a0_1 a0_2 l0_3 l0_4 a1_0 a1_1 a1_2 l1_3 l1_4 a2 a3 = some r) :
  Calls Try.prog 5 #[.agg #[.int .i64 a0_0,.int .i64 a0_1,.int .i64 a0_2,.slice A0_3 l0_3.length c0_3,.slice A0_4 l0_4.length c0_4],.agg #[.int .i64 a1_0,.int .i64 a1_1,.int .i64 a1_2,.slice A1_3 l1_3.length c1_3,.slice A1_4 l1_4.length c1_4],.int .i64 a2,.int .u8 a3] w fun e w' => e = .returned (.bool r) ∧ Below w.heap.size w w' := by
 have hu43 := Try.underlying43
 have HRT := Aside0.mk hrt
 clear hrt
 have HR0_3 := Aside0.mk hr0_3
 have HC0_3 := Aside0.mk hc0_3
 clear hr0_3 hc0_3
 have HR0_4 := Aside0.mk hr0_4
 have HC0_4 := Aside0.mk hc0_4
 clear hr0_4 hc0_4
 have HR1_3 := Aside0.mk hr1_3
 have HC1_3 := Aside0.mk hc1_3
 clear hr1_3 hc1_3
 have HR1_4 := Aside0.mk hr1_4
 have HC1_4 := Aside0.mk hc1_4
 clear hr1_4 hc1_4
 have HB := Aside0.mk (Below.refl w.heap.size w)
 have H : ((incipitlaw19_begun.f k).bind fun t192 => (if t192 = true then ((incipitlaw19_Cut.f k a0_0 a0_1 a0_2 l0_3 l0_4).bind fun bt193 => ((incipitlaw19_Cut.f k a1_0 a1_1 a1_2 l1_3 l1_4).bind fun bt202 => ((edit_Encode.f k bt193.1 bt193.2.1 bt193.2.2.1 bt193.2.2.2.1 bt193.2.2.2.2).bind fun bt211 => ((incipitref12_MayEdit.f k bt193.1 bt193.2.1 bt193.2.2.1 bt193.2.2.2.1 bt193.2.2.2.2).bind fun t215 => (if t215 = true then ((edit_Decode.f k bt211.1).bind fun bt217 => (if bt211.2 = 0 then (if bt217.2.2.2.2.2 = 0 then ((incipitref12_EqEdit.f k bt193.1 bt193.2.1 bt193.2.2.1 bt193.2.2.2.1 bt193.2.2.2.2 bt217.1 bt217.2.1 bt217.2.2.1 bt217.2.2.2.1 bt217.2.2.2.2.1).bind fun t228 => (if t228 = true then ((edit_Check.f k bt193.1 bt193.2.1 bt193.2.2.1 bt193.2.2.2.1 bt193.2.2.2.2).bind fun t229 => (incipitlaw19_EditBytes.j0 k a2 a3 bt211.1 (t229 != 0) bt193.1 bt193.2.1 bt193.2.2.1 bt193.2.2.2.1 bt193.2.2.2.2 bt202.1 bt202.2.1 bt202.2.2.1 bt202.2.2.2.1 bt202.2.2.2.2)) else (incipitlaw19_EditBytes.j0 k a2 a3 bt211.1 true bt193.1 bt193.2.1 bt193.2.2.1 bt193.2.2.2.1 bt193.2.2.2.2 bt202.1 bt202.2.1 bt202.2.2.1 bt202.2.2.2.1 bt202.2.2.2.2))) else (incipitlaw19_EditBytes.j0 k a2 a3 bt211.1 true bt193.1 bt193.2.1 bt193.2.2.1 bt193.2.2.2.1 bt193.2.2.2.2 bt202.1 bt202.2.1 bt202.2.2.1 bt202.2.2.2.1 bt202.2.2.2.2)) else (incipitlaw19_EditBytes.j0 k a2 a3 bt211.1 true bt193.1 bt193.2.1 bt193.2.2.1 bt193.2.2.2.1 bt193.2.2.2.2 bt202.1 bt202.2.1 bt202.2.2.1 bt202.2.2.2.1 bt202.2.2.2.2))) else (if bt211.2 = 12 then (if (bt211.1.length : Int) = 0 then ((edit_Check.f k bt193.1 bt193.2.1 bt193.2.2.1 bt193.2.2.2.1 bt193.2.2.2.2).bind fun t216 => (some (t216 == 12))) else (some false)) else (some false))))))) else (some false))) = some r := h
 clear h
 replace H := Option.bind_eq_some_iff.mp H
 obtain ⟨t192,A50,H⟩ := H
 replace H : (if t192 = true then ((incipitlaw19_Cut.f k a0_0 a0_1 a0_2 l0_3 l0_4).bind fun bt193 => ((incipitlaw19_Cut.f k a1_0 a1_1 a1_2 l1_3 l1_4).bind fun bt202 => ((edit_Encode.f k bt193.1 bt193.2.1 bt193.2.2.1 bt193.2.2.2.1 bt193.2.2.2.2).bind fun bt211 => ((incipitref12_MayEdit.f k bt193.1 bt193.2.1 bt193.2.2.1 bt193.2.2.2.1 bt193.2.2.2.2).bind fun t215 => (if t215 = true then ((edit_Decode.f k bt211.1).bind fun bt217 => (if bt211.2 = 0 then (if bt217.2.2.2.2.2 = 0 then ((incipitref12_EqEdit.f k bt193.1 bt193.2.1 bt193.2.2.1 bt193.2.2.2.1 bt193.2.2.2.2 bt217.1 bt217.2.1 bt217.2.2.1 bt217.2.2.2.1 bt217.2.2.2.2.1).bind fun t228 => (if t228 = true then ((edit_Check.f k bt193.1 bt193.2.1 bt193.2.2.1 bt193.2.2.2.1 bt193.2.2.2.2).bind fun t229 => (incipitlaw19_EditBytes.j0 k a2 a3 bt211.1 (t229 != 0) bt193.1 bt193.2.1 bt193.2.2.1 bt193.2.2.2.1 bt193.2.2.2.2 bt202.1 bt202.2.1 bt202.2.2.1 bt202.2.2.2.1 bt202.2.2.2.2)) else (incipitlaw19_EditBytes.j0 k a2 a3 bt211.1 true bt193.1 bt193.2.1 bt193.2.2.1 bt193.2.2.2.1 bt193.2.2.2.2 bt202.1 bt202.2.1 bt202.2.2.1 bt202.2.2.2.1 bt202.2.2.2.2))) else (incipitlaw19_EditBytes.j0 k a2 a3 bt211.1 true bt193.1 bt193.2.1 bt193.2.2.1 bt193.2.2.2.1 bt193.2.2.2.2 bt202.1 bt202.2.1 bt202.2.2.1 bt202.2.2.2.1 bt202.2.2.2.2)) else (incipitlaw19_EditBytes.j0 k a2 a3 bt211.1 true bt193.1 bt193.2.1 bt193.2.2.1 bt193.2.2.2.1 bt193.2.2.2.2 bt202.1 bt202.2.1 bt202.2.2.1 bt202.2.2.2.1 bt202.2.2.2.2))) else (if bt211.2 = 12 then (if (bt211.1.length : Int) = 0 then ((edit_Check.f k bt193.1 bt193.2.1 bt193.2.2.1 bt193.2.2.2.1 bt193.2.2.2.2).bind fun t216 => (some (t216 == 12))) else (some false)) else (some false))))))) else (some false)) = some r := H
 have A5 := Aside0.mk A50
 clear A50
 by_cases c6 : t192 = true
 ·subst c6
  have H1 : ((incipitlaw19_Cut.f k a0_0 a0_1 a0_2 l0_3 l0_4).bind fun bt193 => ((incipitlaw19_Cut.f k a1_0 a1_1 a1_2 l1_3 l1_4).bind fun bt202 => ((edit_Encode.f k bt193.1 bt193.2.1 bt193.2.2.1 bt193.2.2.2.1 bt193.2.2.2.2).bind fun bt211 => ((incipitref12_MayEdit.f k bt193.1 bt193.2.1 bt193.2.2.1 bt193.2.2.2.1 bt193.2.2.2.2).bind fun t215 => (if t215 = true then ((edit_Decode.f k bt211.1).bind fun bt217 => (if bt211.2 = 0 then (if bt217.2.2.2.2.2 = 0 then ((incipitref12_EqEdit.f k bt193.1 bt193.2.1 bt193.2.2.1 bt193.2.2.2.1 bt193.2.2.2.2 bt217.1 bt217.2.1 bt217.2.2.1 bt217.2.2.2.1 bt217.2.2.2.2.1).bind fun t228 => (if t228 = true then ((edit_Check.f k bt193.1 bt193.2.1 bt193.2.2.1 bt193.2.2.2.1 bt193.2.2.2.2).bind fun t229 => (incipitlaw19_EditBytes.j0 k a2 a3 bt211.1 (t229 != 0) bt193.1 bt193.2.1 bt193.2.2.1 bt193.2.2.2.1 bt193.2.2.2.2 bt202.1 bt202.2.1 bt202.2.2.1 bt202.2.2.2.1 bt202.2.2.2.2)) else (incipitlaw19_EditBytes.j0 k a2 a3 bt211.1 true bt193.1 bt193.2.1 bt193.2.2.1 bt193.2.2.2.1 bt193.2.2.2.2 bt202.1 bt202.2.1 bt202.2.2.1 bt202.2.2.2.1 bt202.2.2.2.2))) else (incipitlaw19_EditBytes.j0 k a2 a3 bt211.1 true bt193.1 bt193.2.1 bt193.2.2.1 bt193.2.2.2.1 bt193.2.2.2.2 bt202.1 bt202.2.1 bt202.2.2.1 bt202.2.2.2.1 bt202.2.2.2.2)) else (incipitlaw19_EditBytes.j0 k a2 a3 bt211.1 true bt193.1 bt193.2.1 bt193.2.2.1 bt193.2.2.2.1 bt193.2.2.2.2 bt202.1 bt202.2.1 bt202.2.2.1 bt202.2.2.2.1 bt202.2.2.2.2))) else (if bt211.2 = 12 then (if (bt211.1.length : Int) = 0 then ((edit_Check.f k bt193.1 bt193.2.1 bt193.2.2.1 bt193.2.2.2.1 bt193.2.2.2.2).bind fun t216 => (some (t216 == 12))) else (some false)) else (some false))))))) = some r := by rw [if_pos rfl] at H;exact H
  clear H
  have H := H1
  clear H1
  replace H := Option.bind_eq_some_iff.mp H
  obtain ⟨⟨t193,t194,t195,t196,t199⟩,A70,H⟩ := H
  replace H : ((incipitlaw19_Cut.f k a1_0 a1_1 a1_2 l1_3 l1_4).bind fun bt202 => ((edit_Encode.f k t193 t194 t195 t196 t199).bind fun bt211 => ((incipitref12_MayEdit.f k t193 t194 t195 t196 t199).bind fun t215 => (if t215 = true then ((edit_Decode.f k bt211.1).bind fun bt217 => (if bt211.2 = 0 then (if bt217.2.2.2.2.2 = 0 then ((incipitref12_EqEdit.f k t193 t194 t195 t196 t199 bt217.1 bt217.2.1 bt217.2.2.1 bt217.2.2.2.1 bt217.2.2.2.2.1).bind fun t228 => (if t228 = true then ((edit_Check.f k t193 t194 t195 t196 t199).bind fun t229 => (incipitlaw19_EditBytes.j0 k a2 a3 bt211.1 (t229 != 0) t193 t194 t195 t196 t199 bt202.1 bt202.2.1 bt202.2.2.1 bt202.2.2.2.1 bt202.2.2.2.2)) else (incipitlaw19_EditBytes.j0 k a2 a3 bt211.1 true t193 t194 t195 t196 t199 bt202.1 bt202.2.1 bt202.2.2.1 bt202.2.2.2.1 bt202.2.2.2.2))) else (incipitlaw19_EditBytes.j0 k a2 a3 bt211.1 true t193 t194 t195 t196 t199 bt202.1 bt202.2.1 bt202.2.2.1 bt202.2.2.2.1 bt202.2.2.2.2)) else (incipitlaw19_EditBytes.j0 k a2 a3 bt211.1 true t193 t194 t195 t196 t199 bt202.1 bt202.2.1 bt202.2.2.1 bt202.2.2.2.1 bt202.2.2.2.2))) else (if bt211.2 = 12 then (if (bt211.1.length : Int) = 0 then ((edit_Check.f k t193 t194 t195 t196 t199).bind fun t216 => (some (t216 == 12))) else (some false)) else (some false)))))) = some r := H
  have A7 := Aside0.mk A70
  clear A70
  replace H := Option.bind_eq_some_iff.mp H
  obtain ⟨⟨t202,t203,t204,t205,t208⟩,A80,H⟩ := H
  replace H : ((edit_Encode.f k t193 t194 t195 t196 t199).bind fun bt211 => ((incipitref12_MayEdit.f k t193 t194 t195 t196 t199).bind fun t215 => (if t215 = true then ((edit_Decode.f k bt211.1).bind fun bt217 => (if bt211.2 = 0 then (if bt217.2.2.2.2.2 = 0 then ((incipitref12_EqEdit.f k t193 t194 t195 t196 t199 bt217.1 bt217.2.1 bt217.2.2.1 bt217.2.2.2.1 bt217.2.2.2.2.1).bind fun t228 => (if t228 = true then ((edit_Check.f k t193 t194 t195 t196 t199).bind fun t229 => (incipitlaw19_EditBytes.j0 k a2 a3 bt211.1 (t229 != 0) t193 t194 t195 t196 t199 t202 t203 t204 t205 t208)) else (incipitlaw19_EditBytes.j0 k a2 a3 bt211.1 true t193 t194 t195 t196 t199 t202 t203 t204 t205 t208))) else (incipitlaw19_EditBytes.j0 k a2 a3 bt211.1 true t193 t194 t195 t196 t199 t202 t203 t204 t205 t208)) else (incipitlaw19_EditBytes.j0 k a2 a3 bt211.1 true t193 t194 t195 t196 t199 t202 t203 t204 t205 t208))) else (if bt211.2 = 12 then (if (bt211.1.length : Int) = 0 then ((edit_Check.f k t193 t194 t195 t196 t199).bind fun t216 => (some (t216 == 12))) else (some false)) else (some false))))) = some r := H
  have A8 := Aside0.mk A80
  clear A80
  replace H := Option.bind_eq_some_iff.mp H
  obtain ⟨⟨t211,t214⟩,A90,H⟩ := H
  replace H : ((incipitref12_MayEdit.f k t193 t194 t195 t196 t199).bind fun t215 => (if t215 = true then ((edit_Decode.f k t211).bind fun bt217 => (if t214 = 0 then (if bt217.2.2.2.2.2 = 0 then ((incipitref12_EqEdit.f k t193 t194 t195 t196 t199 bt217.1 bt217.2.1 bt217.2.2.1 bt217.2.2.2.1 bt217.2.2.2.2.1).bind fun t228 => (if t228 = true then ((edit_Check.f k t193 t194 t195 t196 t199).bind fun t229 => (incipitlaw19_EditBytes.j0 k a2 a3 t211 (t229 != 0) t193 t194 t195 t196 t199 t202 t203 t204 t205 t208)) else (incipitlaw19_EditBytes.j0 k a2 a3 t211 true t193 t194 t195 t196 t199 t202 t203 t204 t205 t208))) else (incipitlaw19_EditBytes.j0 k a2 a3 t211 true t193 t194 t195 t196 t199 t202 t203 t204 t205 t208)) else (incipitlaw19_EditBytes.j0 k a2 a3 t211 true t193 t194 t195 t196 t199 t202 t203 t204 t205 t208))) else (if t214 = 12 then (if (t211.length : Int) = 0 then ((edit_Check.f k t193 t194 t195 t196 t199).bind fun t216 => (some (t216 == 12))) else (some false)) else (some false)))) = some r := H
  have A9 := Aside0.mk A90
  clear A90
  replace H := Option.bind_eq_some_iff.mp H
  obtain ⟨t215,A100,H⟩ := H
  replace H : (if t215 = true then ((edit_Decode.f k t211).bind fun bt217 => (if t214 = 0 then (if bt217.2.2.2.2.2 = 0 then ((incipitref12_EqEdit.f k t193 t194 t195 t196 t199 bt217.1 bt217.2.1 bt217.2.2.1 bt217.2.2.2.1 bt217.2.2.2.2.1).bind fun t228 => (if t228 = true then ((edit_Check.f k t193 t194 t195 t196 t199).bind fun t229 => (incipitlaw19_EditBytes.j0 k a2 a3 t211 (t229 != 0) t193 t194 t195 t196 t199 t202 t203 t204 t205 t208)) else (incipitlaw19_EditBytes.j0 k a2 a3 t211 true t193 t194 t195 t196 t199 t202 t203 t204 t205 t208))) else (incipitlaw19_EditBytes.j0 k a2 a3 t211 true t193 t194 t195 t196 t199 t202 t203 t204 t205 t208)) else (incipitlaw19_EditBytes.j0 k a2 a3 t211 true t193 t194 t195 t196 t199 t202 t203 t204 t205 t208))) else (if t214 = 12 then (if (t211.length : Int) = 0 then ((edit_Check.f k t193 t194 t195 t196 t199).bind fun t216 => (some (t216 == 12))) else (some false)) else (some false))) = some r := H
  have A10 := Aside0.mk A100
  clear A100
  by_cases c11 : t215 = true
  ·subst c11
   have H1 : ((edit_Decode.f k t211).bind fun bt217 => (if t214 = 0 then (if bt217.2.2.2.2.2 = 0 then ((incipitref12_EqEdit.f k t193 t194 t195 t196 t199 bt217.1 bt217.2.1 bt217.2.2.1 bt217.2.2.2.1 bt217.2.2.2.2.1).bind fun t228 => (if t228 = true then ((edit_Check.f k t193 t194 t195 t196 t199).bind fun t229 => (incipitlaw19_EditBytes.j0 k a2 a3 t211 (t229 != 0) t193 t194 t195 t196 t199 t202 t203 t204 t205 t208)) else (incipitlaw19_EditBytes.j0 k a2 a3 t211 true t193 t194 t195 t196 t199 t202 t203 t204 t205 t208))) else (incipitlaw19_EditBytes.j0 k a2 a3 t211 true t193 t194 t195 t196 t199 t202 t203 t204 t205 t208)) else (incipitlaw19_EditBytes.j0 k a2 a3 t211 true t193 t194 t195 t196 t199 t202 t203 t204 t205 t208))) = some r := by rw [if_pos rfl] at H;exact H
   clear H
   have H := H1
   clear H1
   replace H := Option.bind_eq_some_iff.mp H
   obtain ⟨⟨t217,t218,t219,t220,t223,t226⟩,A120,H⟩ := H
   replace H : (if t214 = 0 then (if t226 = 0 then ((incipitref12_EqEdit.f k t193 t194 t195 t196 t199 t217 t218 t219 t220 t223).bind fun t228 => (if t228 = true then ((edit_Check.f k t193 t194 t195 t196 t199).bind fun t229 => (incipitlaw19_EditBytes.j0 k a2 a3 t211 (t229 != 0) t193 t194 t195 t196 t199 t202 t203 t204 t205 t208)) else (incipitlaw19_EditBytes.j0 k a2 a3 t211 true t193 t194 t195 t196 t199 t202 t203 t204 t205 t208))) else (incipitlaw19_EditBytes.j0 k a2 a3 t211 true t193 t194 t195 t196 t199 t202 t203 t204 t205 t208)) else (incipitlaw19_EditBytes.j0 k a2 a3 t211 true t193 t194 t195 t196 t199 t202 t203 t204 t205 t208)) = some r := H
   have A12 := Aside0.mk A120
   clear A120
   have HC13 := Aside0.mk H
   clear H
   go_enter Try.func5,Try.ntmps5
   try go_wp2_with (first|((with_reducible refine gate_dst (N := 4) rfl ?_);(try (refine gate_guard (by rfl) ?_;dsimp only));refine box_event ?hg (N := 4) ?hd (cs := #[.int .i64 a0_0,.int .i64 a0_1,.int .i64 a0_2,.slice A0_3 l0_3.length c0_3,.slice A0_4 l0_4.length c0_4]) (t := 43) ?hr ?_;(case hd => rfl);(case hg => rfl);(case hr => first|(go_simp;done)|(go_simp;rfl));intro gb190 hg w14 hbox hb;have n0_ := Aside0.mk (below_step (by repeat (first|(with_reducible first|exact HB.out|apply below_alloc|apply pw_below_drewN|apply below_drew1)|exact HB.out)) hb);have n1_ := Aside0.mk (hbox);have n2_ := Aside0.mk ((by rw [hg];exact (below_size (by repeat (first|(with_reducible first|exact HB.out|apply below_alloc|apply pw_below_drewN|apply below_drew1)|exact HB.out))) : w.heap.size ≤ gb190));have n3_ := Aside0.mk ((by rw [hg];exact (below_size (by repeat (first|(with_reducible first|exact HB.out|apply below_alloc|apply pw_below_drewN|apply below_drew1)|exact HB.out))) : w.heap.size ≤ gb190));clear HB;have HB := n0_;have BK190 := n1_;have GW190 := n2_;have GE190 := n3_;clear n0_ n1_ n2_ n3_;clear hb hbox hg)|((with_reducible refine gate_dst (N := 5) rfl ?_);(try (refine gate_guard (by rfl) ?_;dsimp only));refine box_event ?hg (N := 5) ?hd (cs := #[.int .i64 a1_0,.int .i64 a1_1,.int .i64 a1_2,.slice A1_3 l1_3.length c1_3,.slice A1_4 l1_4.length c1_4]) (t := 43) ?hr ?_;(case hd => rfl);(case hg => rfl);(case hr => first|(go_simp;done)|(go_simp;rfl));intro gb191 hg w15 hbox hb;have n0_ := Aside0.mk (blk_below (g := gb190) (o := .cells #[.int .i64 a0_0,.int .i64 a0_1,.int .i64 a0_2,.slice A0_3 l0_3.length c0_3,.slice A0_4 l0_4.length c0_4] 43 (0,0)) (by (with_reducible repeat (first|refine blk_drewN ?_ _|refine blk_drew ?_|refine blk_alloc ?_ _));exact BK190.out) hb);have n1_ := Aside0.mk (below_step (by repeat (first|(with_reducible first|exact HB.out|apply below_alloc|apply pw_below_drewN|apply below_drew1|refine below_set ?_ GE190.out)|exact HB.out)) hb);have n2_ := Aside0.mk (hbox);have n3_ := Aside0.mk ((by rw [hg];exact (below_size (by repeat (first|(with_reducible first|exact HB.out|apply below_alloc|apply pw_below_drewN|apply below_drew1|refine below_set ?_ GE190.out)|exact HB.out))) : w.heap.size ≤ gb191));have n4_ := Aside0.mk ((by rw [hg];exact (below_size (by repeat (first|(with_reducible first|exact HB.out|apply below_alloc|apply pw_below_drewN|apply below_drew1|refine below_set ?_ GE190.out)|exact HB.out))) : w.heap.size ≤ gb191));have n5_ := Aside0.mk ((by rw [hg];exact Nat.ne_of_lt (blk_lt (g := gb190) (o := .cells #[.int .i64 a0_0,.int .i64 a0_1,.int .i64 a0_2,.slice A0_3 l0_3.length c0_3,.slice A0_4 l0_4.length c0_4] 43 (0,0)) (by (with_reducible repeat (first|refine blk_drewN ?_ _|refine blk_drew ?_|refine blk_alloc ?_ _));exact BK190.out)) : gb190 ≠ gb191));have n6_ := Aside0.mk ((by rw [hg];exact Nat.ne_of_gt (blk_lt (g := gb190) (o := .cells #[.int .i64 a0_0,.int .i64 a0_1,.int .i64 a0_2,.slice A0_3 l0_3.length c0_3,.slice A0_4 l0_4.length c0_4] 43 (0,0)) (by (with_reducible repeat (first|refine blk_drewN ?_ _|refine blk_drew ?_|refine blk_alloc ?_ _));exact BK190.out)) : gb191 ≠ gb190));clear BK190;clear HB;have BK190 := n0_;have HB := n1_;have BK191 := n2_;have GW191 := n3_;have GE191 := n4_;have NB190_191 := n5_;have NB191_190 := n6_;clear n0_ n1_ n2_ n3_ n4_ n5_ n6_;clear hb hbox hg)|((with_reducible refine gate_callee (f := 23) rfl ?_);refine goesL_ (some 18) rfl rfl Try.func23 (by kernel_rfl) rfl #[] rfl (by (try simp only [List.map_toArray,List.map_cons,List.map_nil]);first | done | rfl|(simp only [List.length_drop,List.length_take];rfl)) ?_;(with_reducible refine (incipitlaw19_begun.calls k  true _ rfl A5.out).mono ?_);rintro e w16 ⟨rfl,hb⟩;refine ⟨_,rfl,?_⟩;have n0_ := Aside0.mk (blk_below (g := gb190) (o := .cells #[.int .i64 a0_0,.int .i64 a0_1,.int .i64 a0_2,.slice A0_3 l0_3.length c0_3,.slice A0_4 l0_4.length c0_4] 43 (0,0)) (by (with_reducible repeat (first|refine blk_drewN ?_ _|refine blk_drew ?_|refine blk_alloc ?_ _));exact BK190.out) hb);have n1_ := Aside0.mk (blk_below (g := gb191) (o := .cells #[.int .i64 a1_0,.int .i64 a1_1,.int .i64 a1_2,.slice A1_3 l1_3.length c1_3,.slice A1_4 l1_4.length c1_4] 43 (0,0)) (by (with_reducible repeat (first|refine blk_drewN ?_ _|refine blk_drew ?_|refine blk_alloc ?_ _));exact BK191.out) hb);have n2_ := Aside0.mk (below_step (by repeat (first|(with_reducible first|exact HB.out|apply below_alloc|apply pw_below_drewN|apply below_drew1|refine below_set ?_ GE190.out|refine below_set ?_ GE191.out)|exact HB.out)) hb);clear BK190;clear BK191;clear HB;have BK190 := n0_;have BK191 := n1_;have HB := n2_;clear n0_ n1_ n2_;(try clear hb);(try clear hb2);(try clear hk);(try clear hi)))
   have n0_ := Aside0.mk (blk_drew BK190.out)
   have n1_ := Aside0.mk (blk_drew BK191.out)
   have n2_ := Aside0.mk (below_drew1 HB.out)
   clear BK190
   clear BK191
   clear HB
   have BK190 := n0_
   have BK191 := n1_
   have HB := n2_
   clear n0_ n1_ n2_
   refine start_ (n := 6) (S := fun w' => w'.cell? ⟨gb190,0,none⟩ = some (.int .i64 a0_0) ∧ w'.cell? ⟨gb190,1,none⟩ = some (.int .i64 a0_1) ∧ w'.cell? ⟨gb190,2,none⟩ = some (.int .i64 a0_2) ∧ w'.cell? ⟨gb190,3,none⟩ = some (.slice A0_3 l0_3.length c0_3) ∧ w'.cell? ⟨gb190,4,none⟩ = some (.slice A0_4 l0_4.length c0_4) ∧ w'.cell? ⟨gb191,0,none⟩ = some (.int .i64 a1_0) ∧ w'.cell? ⟨gb191,1,none⟩ = some (.int .i64 a1_1) ∧ w'.cell? ⟨gb191,2,none⟩ = some (.int .i64 a1_2) ∧ w'.cell? ⟨gb191,3,none⟩ = some (.slice A1_3 l1_3.length c1_3) ∧ w'.cell? ⟨gb191,4,none⟩ = some (.slice A1_4 l1_4.length c1_4)) (ds := [4,5]) #[false,false,false,false,false,false] (by kernel_rfl) rfl rfl ⟨(blk_cell BK190.out 0).trans rfl,(blk_cell BK190.out 1).trans rfl,(blk_cell BK190.out 2).trans rfl,(blk_cell BK190.out 3).trans rfl,(blk_cell BK190.out 4).trans rfl,(blk_cell BK191.out 0).trans rfl,(blk_cell BK191.out 1).trans rfl,(blk_cell BK191.out 2).trans rfl,(blk_cell BK191.out 3).trans rfl,(blk_cell BK191.out 4).trans rfl⟩ (fun hHeld => ?_)
   generalize w16.drew = w17 at BK190 BK191 HB hHeld ⊢
   refine take_ (i := 0) (N := some 21) (v := ?_) (a' := ?_) #[true,false,false,false,false,false] rfl rfl (by kernel_rfl) (fun _ _ _ h => h) (Or.inl ⟨by rfl,?_⟩) hHeld ?_ ?_
   rotate_left
   ·rintro w' ⟨s0,s1,s2,s3,s4,s5,s6,s7,s8,s9⟩
    go_simp
    with_reducible rfl
   rotate_left
   ·simp only [Act.put,List.setIfInBounds_toArray,List.set_cons_zero,List.set_cons_succ,i64_w,i32_w]
    rfl
   refine take_ (i := 2) (N := some 23) (v := ?_) (a' := ?_) #[true,false,true,false,false,false] rfl rfl (by kernel_rfl) (fun _ _ _ h => h) (Or.inl ⟨by rfl,?_⟩) hHeld ?_ ?_
   rotate_left
   ·rintro w' ⟨s0,s1,s2,s3,s4,s5,s6,s7,s8,s9⟩
    go_simp
    with_reducible rfl
   rotate_left
   ·simp only [Act.put,List.setIfInBounds_toArray,List.set_cons_zero,List.set_cons_succ,i64_w,i32_w]
    rfl
   refine one_ (i := 1) (N := some 22) #[true,true,true,false,false,false] rfl rfl (by kernel_rfl) (by decide) (fun K hK => ?_)
   refine goes_ Try.func24 (by kernel_rfl) rfl #[.agg #[.int .i64 a0_0,.int .i64 a0_1,.int .i64 a0_2,.slice A0_3 l0_3.length c0_3,.slice A0_4 l0_4.length c0_4]] (by rfl) rfl rfl (by (try simp only [List.map_toArray,List.map_cons,List.map_nil]);first | done | rfl|(simp only [List.length_drop,List.length_take];rfl)) ?_
   with_reducible refine (incipitlaw19_Cut.calls k a0_0 a0_1 a0_2 (fun k_ => k_ < w.heap.size) _ _ l0_3 (fun k_ => k_ < w.heap.size) _ _ l0_4 t193 t194 t195 t196 t199 _ ?side1 ?side2 A7.out).mono ?_
   (case side1 => exact Kd.V_mk HC0_3.out (Kd.F_below (Kd.C_F k55_heap HR0_3.out) (by repeat (first|(with_reducible first|exact HB.out|apply below_alloc|apply pw_below_drewN|apply below_drew1|refine below_set ?_ GE190.out|refine below_set ?_ GE191.out)|exact HB.out))))
   (case side2 => exact Kd.V_mk HC0_4.out (Kd.F_below (Kd.C_F (Kd.heap_int .i64) HR0_4.out) (by repeat (first|(with_reducible first|exact HB.out|apply below_alloc|apply pw_below_drewN|apply below_drew1|refine below_set ?_ GE190.out|refine below_set ?_ GE191.out)|exact HB.out))))
   rintro e w18 ⟨v197,v200,rfl,ho0,ho1,hb⟩
   refine ⟨_,rfl,?_⟩
   have n0_ := Aside0.mk (Kd.R_lower (Kd.R_mono (ok' := fun k_ => True) ho0 (fun _ hk_ => trivial)) (below_size (by repeat (first|(with_reducible first|exact HB.out|apply below_alloc|apply pw_below_drewN|apply below_drew1|refine below_set ?_ GE190.out|refine below_set ?_ GE191.out)|exact HB.out))))
   have n1_ := Aside0.mk (Kd.V_lower (Kd.V_mono (ok' := fun k_ => some k_ ≠ (v197 : Value).ownBlock ∧ k_ ≠ gb190 ∧ k_ ≠ gb191) ho1 (fun k_ hk_ => ⟨hk_.2,Or.elim hk_.1 (fun hs_ => Or.elim hs_ (fun hs_ => fun e_ => Nat.not_le.2 hs_ (by rw [e_];exact GW190.out)) (fun hs_ => fun e_ => Nat.not_le.2 hs_ (by rw [e_];exact GW190.out))) (fun hn_ => (Kd.freshB (g := gb190) (o := .cells #[.int .i64 a0_0,.int .i64 a0_1,.int .i64 a0_2,.slice A0_3 l0_3.length c0_3,.slice A0_4 l0_4.length c0_4] 43 (0,0)) (by (with_reducible repeat (first|refine blk_drewN ?_ _|refine blk_drew ?_|refine blk_alloc ?_ _));exact BK190.out) k_ hn_)),Or.elim hk_.1 (fun hs_ => Or.elim hs_ (fun hs_ => fun e_ => Nat.not_le.2 hs_ (by rw [e_];exact GW191.out)) (fun hs_ => fun e_ => Nat.not_le.2 hs_ (by rw [e_];exact GW191.out))) (fun hn_ => (Kd.freshB (g := gb191) (o := .cells #[.int .i64 a1_0,.int .i64 a1_1,.int .i64 a1_2,.slice A1_3 l1_3.length c1_3,.slice A1_4 l1_4.length c1_4] 43 (0,0)) (by (with_reducible repeat (first|refine blk_drewN ?_ _|refine blk_drew ?_|refine blk_alloc ?_ _));exact BK191.out) k_ hn_))⟩)) (below_size (by repeat (first|(with_reducible first|exact HB.out|apply below_alloc|apply pw_below_drewN|apply below_drew1|refine below_set ?_ GE190.out|refine below_set ?_ GE191.out)|exact HB.out))))
   have n2_ := Aside0.mk (blk_below (g := gb190) (o := .cells #[.int .i64 a0_0,.int .i64 a0_1,.int .i64 a0_2,.slice A0_3 l0_3.length c0_3,.slice A0_4 l0_4.length c0_4] 43 (0,0)) (by (with_reducible repeat (first|refine blk_drewN ?_ _|refine blk_drew ?_|refine blk_alloc ?_ _));exact BK190.out) hb)
   have n3_ := Aside0.mk (blk_below (g := gb191) (o := .cells #[.int .i64 a1_0,.int .i64 a1_1,.int .i64 a1_2,.slice A1_3 l1_3.length c1_3,.slice A1_4 l1_4.length c1_4] 43 (0,0)) (by (with_reducible repeat (first|refine blk_drewN ?_ _|refine blk_drew ?_|refine blk_alloc ?_ _));exact BK191.out) hb)
   have n4_ := Aside0.mk (below_step (by repeat (first|(with_reducible first|exact HB.out|apply below_alloc|apply pw_below_drewN|apply below_drew1|refine below_set ?_ GE190.out|refine below_set ?_ GE191.out)|exact HB.out)) hb)
   clear BK190
   clear BK191
   clear HB
   have HO198 := n0_
   have HO201 := n1_
   have BK190 := n2_
   have BK191 := n3_
   have HB := n4_
   clear n0_ n1_ n2_ n3_ n4_
   (try clear hb)
   (try clear hb2)
   (try clear hk)
   (try clear hi)
   (try clear ho0)
   (try clear ho1)
   refine hK.out _ _ ⟨(blk_cell BK190.out 0).trans rfl,(blk_cell BK190.out 1).trans rfl,(blk_cell BK190.out 2).trans rfl,(blk_cell BK190.out 3).trans rfl,(blk_cell BK190.out 4).trans rfl,(blk_cell BK191.out 0).trans rfl,(blk_cell BK191.out 1).trans rfl,(blk_cell BK191.out 2).trans rfl,(blk_cell BK191.out 3).trans rfl,(blk_cell BK191.out 4).trans rfl⟩ (fun hHeld => ?_)
   clear hK K
   refine norm_ (a' := ?_) ?_ ?_
   rotate_left
   ·show Act.put _ (some 22) _ = _
    simp only [Act.put,List.setIfInBounds_toArray,List.set_cons_zero,List.set_cons_succ,i64_w,i32_w]
    rfl
   refine one_ (i := 3) (N := some 24) #[true,true,true,true,false,false] rfl rfl (by kernel_rfl) (by decide) (fun K hK => ?_)
   refine goes_ Try.func24 (by kernel_rfl) rfl #[.agg #[.int .i64 a1_0,.int .i64 a1_1,.int .i64 a1_2,.slice A1_3 l1_3.length c1_3,.slice A1_4 l1_4.length c1_4]] (by rfl) rfl rfl (by (try simp only [List.map_toArray,List.map_cons,List.map_nil]);first | done | rfl|(simp only [List.length_drop,List.length_take];rfl)) ?_
   with_reducible refine (incipitlaw19_Cut.calls k a1_0 a1_1 a1_2 (fun k_ => k_ < w.heap.size) _ _ l1_3 (fun k_ => k_ < w.heap.size) _ _ l1_4 t202 t203 t204 t205 t208 _ ?side1 ?side2 A8.out).mono ?_
   (case side1 => exact Kd.V_mk HC1_3.out (Kd.F_below (Kd.C_F k55_heap HR1_3.out) (by repeat (first|(with_reducible first|exact HB.out|apply below_alloc|apply pw_below_drewN|apply below_drew1|refine below_set ?_ GE190.out|refine below_set ?_ GE191.out)|exact HB.out))))
   (case side2 => exact Kd.V_mk HC1_4.out (Kd.F_below (Kd.C_F (Kd.heap_int .i64) HR1_4.out) (by repeat (first|(with_reducible first|exact HB.out|apply below_alloc|apply pw_below_drewN|apply below_drew1|refine below_set ?_ GE190.out|refine below_set ?_ GE191.out)|exact HB.out))))
   rintro e w19 ⟨v206,v209,rfl,ho0,ho1,hb⟩
   refine ⟨_,rfl,?_⟩
   have n0_ := Aside0.mk (Kd.R_elder' (by (with_reducible repeat (first|apply Kd.R_alloc|apply Kd.R_drewN|apply Kd.R_drew));exact HO198.out) (Kd.R_base ho0) hb)
   have n1_ := Aside0.mk (Kd.V_elder' (by (with_reducible repeat (first|apply Kd.V_alloc|apply Kd.V_drewN|apply Kd.V_drew));exact HO201.out) (Kd.R_base ho0) hb)
   have n2_ := Aside0.mk (Kd.R_lower (Kd.R_new' (Kd.R_mono (ok' := fun k_ => True) ho0 (fun _ hk_ => trivial)) (Kd.R_lt (by (with_reducible repeat (first|apply Kd.R_alloc|apply Kd.R_drewN|apply Kd.R_drew));exact HO198.out))) (below_size (by repeat (first|(with_reducible first|exact HB.out|apply below_alloc|apply pw_below_drewN|apply below_drew1|refine below_set ?_ GE190.out|refine below_set ?_ GE191.out)|exact HB.out))))
   have n3_ := Aside0.mk (Kd.V_lower (Kd.V_mono (ok' := fun k_ => some k_ ≠ (v206 : Value).ownBlock ∧ some k_ ≠ (v197 : Value).ownBlock ∧ k_ ≠ gb190 ∧ k_ ≠ gb191) ho1 (fun k_ hk_ => ⟨hk_.2,Or.elim hk_.1 (fun hs_ => Or.elim hs_ (fun hs_ => fun e_ => Nat.not_le.2 hs_ (Kd.R_base HO198.out k_ e_.symm)) (fun hs_ => fun e_ => Nat.not_le.2 hs_ (Kd.R_base HO198.out k_ e_.symm))) (fun hn_ => (Kd.fresh' (Kd.R_lt (by (with_reducible repeat (first|apply Kd.R_alloc|apply Kd.R_drewN|apply Kd.R_drew));exact HO198.out)) k_ hn_)),Or.elim hk_.1 (fun hs_ => Or.elim hs_ (fun hs_ => fun e_ => Nat.not_le.2 hs_ (by rw [e_];exact GW190.out)) (fun hs_ => fun e_ => Nat.not_le.2 hs_ (by rw [e_];exact GW190.out))) (fun hn_ => (Kd.freshB (g := gb190) (o := .cells #[.int .i64 a0_0,.int .i64 a0_1,.int .i64 a0_2,.slice A0_3 l0_3.length c0_3,.slice A0_4 l0_4.length c0_4] 43 (0,0)) (by (with_reducible repeat (first|refine blk_drewN ?_ _|refine blk_drew ?_|refine blk_alloc ?_ _));exact BK190.out) k_ hn_)),Or.elim hk_.1 (fun hs_ => Or.elim hs_ (fun hs_ => fun e_ => Nat.not_le.2 hs_ (by rw [e_];exact GW191.out)) (fun hs_ => fun e_ => Nat.not_le.2 hs_ (by rw [e_];exact GW191.out))) (fun hn_ => (Kd.freshB (g := gb191) (o := .cells #[.int .i64 a1_0,.int .i64 a1_1,.int .i64 a1_2,.slice A1_3 l1_3.length c1_3,.slice A1_4 l1_4.length c1_4] 43 (0,0)) (by (with_reducible repeat (first|refine blk_drewN ?_ _|refine blk_drew ?_|refine blk_alloc ?_ _));exact BK191.out) k_ hn_))⟩)) (below_size (by repeat (first|(with_reducible first|exact HB.out|apply below_alloc|apply pw_below_drewN|apply below_drew1|refine below_set ?_ GE190.out|refine below_set ?_ GE191.out)|exact HB.out))))
   have n4_ := Aside0.mk (blk_below (g := gb190) (o := .cells #[.int .i64 a0_0,.int .i64 a0_1,.int .i64 a0_2,.slice A0_3 l0_3.length c0_3,.slice A0_4 l0_4.length c0_4] 43 (0,0)) (by (with_reducible repeat (first|refine blk_drewN ?_ _|refine blk_drew ?_|refine blk_alloc ?_ _));exact BK190.out) hb)
   have n5_ := Aside0.mk (blk_below (g := gb191) (o := .cells #[.int .i64 a1_0,.int .i64 a1_1,.int .i64 a1_2,.slice A1_3 l1_3.length c1_3,.slice A1_4 l1_4.length c1_4] 43 (0,0)) (by (with_reducible repeat (first|refine blk_drewN ?_ _|refine blk_drew ?_|refine blk_alloc ?_ _));exact BK191.out) hb)
   have n6_ := Aside0.mk (below_step (by repeat (first|(with_reducible first|exact HB.out|apply below_alloc|apply pw_below_drewN|apply below_drew1|refine below_set ?_ GE190.out|refine below_set ?_ GE191.out)|exact HB.out)) hb)
   clear HO198
   clear HO201
   clear BK190
   clear BK191
   clear HB
   have HO198 := n0_
   have HO201 := n1_
   have HO207 := n2_
   have HO210 := n3_
   have BK190 := n4_
   have BK191 := n5_
   have HB := n6_
   clear n0_ n1_ n2_ n3_ n4_ n5_ n6_
   (try clear hb)
   (try clear hb2)
   (try clear hk)
   (try clear hi)
   (try clear ho0)
   (try clear ho1)
   obtain ⟨Ao23,co23,eo23⟩ := Kd.R_slice HO198.out
   (first | subst eo23|(injection eo23 with f1_ f2_ f3_;have f4_ := f1_.symm;have f5_ := f3_.symm;clear f1_ f2_ f3_;subst f4_;subst f5_))
   obtain ⟨Ao25,co25,eo25⟩ := Kd.V_slice HO201.out
   (first | subst eo25|(injection eo25 with f1_ f2_ f3_;have f4_ := f1_.symm;have f5_ := f3_.symm;clear f1_ f2_ f3_;subst f4_;subst f5_))
   obtain ⟨Ao30,co30,eo30⟩ := Kd.R_slice HO207.out
   (first | subst eo30|(injection eo30 with f1_ f2_ f3_;have f4_ := f1_.symm;have f5_ := f3_.symm;clear f1_ f2_ f3_;subst f4_;subst f5_))
   obtain ⟨Ao32,co32,eo32⟩ := Kd.V_slice HO210.out
   (first | subst eo32|(injection eo32 with f1_ f2_ f3_;have f4_ := f1_.symm;have f5_ := f3_.symm;clear f1_ f2_ f3_;subst f4_;subst f5_))
   refine hK.out _ _ ⟨(blk_cell BK190.out 0).trans rfl,(blk_cell BK190.out 1).trans rfl,(blk_cell BK190.out 2).trans rfl,(blk_cell BK190.out 3).trans rfl,(blk_cell BK190.out 4).trans rfl,(blk_cell BK191.out 0).trans rfl,(blk_cell BK191.out 1).trans rfl,(blk_cell BK191.out 2).trans rfl,(blk_cell BK191.out 3).trans rfl,(blk_cell BK191.out 4).trans rfl⟩ (fun hHeld => ?_)
   clear hK K
   refine norm_ (a' := ?_) ?_ ?_
   rotate_left
   ·show Act.put _ (some 24) _ = _
    simp only [Act.put,List.setIfInBounds_toArray,List.set_cons_zero,List.set_cons_succ,i64_w,i32_w]
    rfl
   refine last_ (i := 4) (N := none) #[true,true,true,true,true,false] rfl rfl (by kernel_rfl) (by decide) (fun K hK => ?_)
   have hs20 : w19.cell? ⟨gb190,0,none⟩ = some (.int .i64 a0_0) := (blk_cell BK190.out 0).trans rfl
   have hfs20 := blk_frozen BK190.out 0
   have hns20_1 := NB191_190.out
   have hms20_1 := NB190_191.out
   have hs21 : w19.cell? ⟨gb190,1,none⟩ = some (.int .i64 a0_1) := (blk_cell BK190.out 1).trans rfl
   have hfs21 := blk_frozen BK190.out 1
   have hns21_1 := NB191_190.out
   have hms21_1 := NB190_191.out
   have hs22 : w19.cell? ⟨gb190,2,none⟩ = some (.int .i64 a0_2) := (blk_cell BK190.out 2).trans rfl
   have hfs22 := blk_frozen BK190.out 2
   have hns22_1 := NB191_190.out
   have hms22_1 := NB190_191.out
   have hs24 : w19.cell? ⟨gb190,3,none⟩ = some (.slice A0_3 l0_3.length c0_3) := (blk_cell BK190.out 3).trans rfl
   have hfs24 := blk_frozen BK190.out 3
   have hns24_1 := NB191_190.out
   have hms24_1 := NB190_191.out
   have hs26 : w19.cell? ⟨gb190,4,none⟩ = some (.slice A0_4 l0_4.length c0_4) := (blk_cell BK190.out 4).trans rfl
   have hfs26 := blk_frozen BK190.out 4
   have hns26_1 := NB191_190.out
   have hms26_1 := NB190_191.out
   refine skip_ (w1 := ?_) (by rfl) rfl ?_ ?_
   rotate_left
   ·go_simp
    rfl
   refine hK.out _ _ ?_
   clear hK K
   refine last_ (i := 5) (N := none) #[true,true,true,true,true,true] rfl rfl (by kernel_rfl) (by decide) (fun K hK => ?_)
   have hs27 : w19.cell? ⟨gb191,0,none⟩ = some (.int .i64 a1_0) := (blk_cell BK191.out 0).trans rfl
   have hfs27 := blk_frozen BK191.out 0
   have hns27_0 := NB190_191.out
   have hms27_0 := NB191_190.out
   have hs28 : w19.cell? ⟨gb191,1,none⟩ = some (.int .i64 a1_1) := (blk_cell BK191.out 1).trans rfl
   have hfs28 := blk_frozen BK191.out 1
   have hns28_0 := NB190_191.out
   have hms28_0 := NB191_190.out
   have hs29 : w19.cell? ⟨gb191,2,none⟩ = some (.int .i64 a1_2) := (blk_cell BK191.out 2).trans rfl
   have hfs29 := blk_frozen BK191.out 2
   have hns29_0 := NB190_191.out
   have hms29_0 := NB191_190.out
   have hs31 : w19.cell? ⟨gb191,3,none⟩ = some (.slice A1_3 l1_3.length c1_3) := (blk_cell BK191.out 3).trans rfl
   have hfs31 := blk_frozen BK191.out 3
   have hns31_0 := NB190_191.out
   have hms31_0 := NB191_190.out
   have hs33 : w19.cell? ⟨gb191,4,none⟩ = some (.slice A1_4 l1_4.length c1_4) := (blk_cell BK191.out 4).trans rfl
   have hfs33 := blk_frozen BK191.out 4
   have hns33_0 := NB190_191.out
   have hms33_0 := NB191_190.out
   refine skip_ (w1 := ?_) (by rfl) rfl ?_ ?_
   rotate_left
   ·go_simp
    rfl
   refine hK.out _ _ ?_
   clear hK K
   refine done_ (by kernel_rfl) ?_
   have hnb34 := NB190_191.out
   have hnc34 := NB191_190.out
   have hcz35_0 : w19.cell? ⟨gb190,0,none⟩ = some (.int .i64 a0_0) := (blk_cell BK190.out 0).trans rfl
   have hcz35_1 : w19.cell? ⟨gb190,1,none⟩ = some (.int .i64 a0_1) := (blk_cell BK190.out 1).trans rfl
   have hcz35_2 : w19.cell? ⟨gb190,2,none⟩ = some (.int .i64 a0_2) := (blk_cell BK190.out 2).trans rfl
   have hcz35_3 : w19.cell? ⟨gb190,3,none⟩ = some (.slice A0_3 l0_3.length c0_3) := (blk_cell BK190.out 3).trans rfl
   have hcz35_4 : w19.cell? ⟨gb190,4,none⟩ = some (.slice A0_4 l0_4.length c0_4) := (blk_cell BK190.out 4).trans rfl
   have hfz35_0 := blk_frozen BK190.out 0
   have hfz35_1 := blk_frozen BK190.out 1
   have hfz35_2 := blk_frozen BK190.out 2
   have hfz35_3 := blk_frozen BK190.out 3
   have hfz35_4 := blk_frozen BK190.out 4
   go_upto_region 9 with (first|((with_reducible refine gate_callee (f := 25) rfl ?_);refine goesL_ (some 27) rfl rfl Try.func25 (by kernel_rfl) rfl #[.agg #[.int .i64 t193,.int .i64 t194,.int .i64 t195,.slice Ao23 t196.length co23,.slice Ao25 t199.length co25]] rfl (by (try simp only [List.map_toArray,List.map_cons,List.map_nil]);first | done | rfl|(simp only [List.length_drop,List.length_take];rfl)) ?_;(with_reducible refine (edit_Encode.calls k t193 t194 t195 _ _ t196 _ _ t199 t211 t214 _ ?side1 ?side2 ?side3 ?side4 A9.out).mono ?_);(case side1 => refine (Kd.R_reads' (e := 55) (base := w.heap.size) (ok := fun k_ => (True ∧ some k_ ≠ (.slice Ao30 t205.length co30 : Value).ownBlock)) (n := t196.length) (c := co23) ?_).2.2;exact (by (with_reducible repeat (first|apply Kd.R_alloc|apply Kd.R_drewN|apply Kd.R_drew));exact (Kd.R_mono (Kd.R_mono (Kd.R_far (p := ⟨gb191,4,none⟩) (Kd.R_far (p := ⟨gb191,3,none⟩) (Kd.R_far (p := ⟨gb191,2,none⟩) (Kd.R_far (p := ⟨gb191,1,none⟩) (Kd.R_far (p := ⟨gb191,0,none⟩) (Kd.R_far (p := ⟨gb190,4,none⟩) (Kd.R_far (p := ⟨gb190,3,none⟩) (Kd.R_far (p := ⟨gb190,2,none⟩) (Kd.R_far (p := ⟨gb190,1,none⟩) (Kd.R_far (p := ⟨gb190,0,none⟩) (Kd.R_types (Kd.R_types HO198.out BK190.out (by decide)) BK191.out (by decide)) (fun _ hk => hk.1.2) (.int .i64 t193)) (fun _ hk => hk.1.2) (.int .i64 t194)) (fun _ hk => hk.1.2) (.int .i64 t195)) (fun _ hk => hk.1.2) (.slice Ao23 t196.length co23)) (fun _ hk => hk.1.2) (.slice Ao25 t199.length co25)) (fun _ hk => hk.2) (.int .i64 t202)) (fun _ hk => hk.2) (.int .i64 t203)) (fun _ hk => hk.2) (.int .i64 t204)) (fun _ hk => hk.2) (.slice Ao30 t205.length co30)) (fun _ hk => hk.2) (.slice Ao32 t208.length co32)) (fun _ h_ => h_.1)) (fun _ h_ => h_.1))));(case side2 => exact (Kd.R_reads' HO198.out).2.1);(case side3 => refine (Kd.V_reads' (e := 2) (base := w.heap.size) (ok := fun k_ => ((some k_ ≠ (.slice Ao23 t196.length co23 : Value).ownBlock ∧ (k_ ≠ gb190 ∧ k_ ≠ gb191)) ∧ some k_ ≠ (.slice Ao30 t205.length co30 : Value).ownBlock)) (n := t199.length) (c := co25) ?_).2.2;exact (by (with_reducible repeat (first|apply Kd.V_alloc|apply Kd.V_drewN|apply Kd.V_drew));exact (Kd.V_mono (Kd.V_mono (Kd.V_far (p := ⟨gb191,4,none⟩) (Kd.V_far (p := ⟨gb191,3,none⟩) (Kd.V_far (p := ⟨gb191,2,none⟩) (Kd.V_far (p := ⟨gb191,1,none⟩) (Kd.V_far (p := ⟨gb191,0,none⟩) (Kd.V_far (p := ⟨gb190,4,none⟩) (Kd.V_far (p := ⟨gb190,3,none⟩) (Kd.V_far (p := ⟨gb190,2,none⟩) (Kd.V_far (p := ⟨gb190,1,none⟩) (Kd.V_far (p := ⟨gb190,0,none⟩) (Kd.V_mono (Kd.V_mono HO201.out (fun k_ hk => (⟨hk,hk.1.2.1⟩ : _ ∧ k_ ≠ gb190))) (fun k_ hk => (⟨hk,hk.1.1.2.2⟩ : _ ∧ k_ ≠ gb191))) (fun _ hk => hk.1.2) (.int .i64 t193)) (fun _ hk => hk.1.2) (.int .i64 t194)) (fun _ hk => hk.1.2) (.int .i64 t195)) (fun _ hk => hk.1.2) (.slice Ao23 t196.length co23)) (fun _ hk => hk.1.2) (.slice Ao25 t199.length co25)) (fun _ hk => hk.2) (.int .i64 t202)) (fun _ hk => hk.2) (.int .i64 t203)) (fun _ hk => hk.2) (.int .i64 t204)) (fun _ hk => hk.2) (.slice Ao30 t205.length co30)) (fun _ hk => hk.2) (.slice Ao32 t208.length co32)) (fun _ h_ => h_.1)) (fun _ h_ => h_.1))));(case side4 => exact (Kd.V_reads' HO201.out).2.1);rintro e w36 ⟨v212,rfl,ho0,hb⟩;refine ⟨_,rfl,?_⟩;have n0_ := Aside0.mk (Kd.R_below (by (with_reducible repeat (first|apply Kd.R_alloc|apply Kd.R_drewN|apply Kd.R_drew));exact (Kd.R_mono (Kd.R_mono (Kd.R_far (p := ⟨gb191,4,none⟩) (Kd.R_far (p := ⟨gb191,3,none⟩) (Kd.R_far (p := ⟨gb191,2,none⟩) (Kd.R_far (p := ⟨gb191,1,none⟩) (Kd.R_far (p := ⟨gb191,0,none⟩) (Kd.R_far (p := ⟨gb190,4,none⟩) (Kd.R_far (p := ⟨gb190,3,none⟩) (Kd.R_far (p := ⟨gb190,2,none⟩) (Kd.R_far (p := ⟨gb190,1,none⟩) (Kd.R_far (p := ⟨gb190,0,none⟩) (Kd.R_types (Kd.R_types HO198.out BK190.out (by decide)) BK191.out (by decide)) (fun _ hk => hk.1.2) (.int .i64 t193)) (fun _ hk => hk.1.2) (.int .i64 t194)) (fun _ hk => hk.1.2) (.int .i64 t195)) (fun _ hk => hk.1.2) (.slice Ao23 t196.length co23)) (fun _ hk => hk.1.2) (.slice Ao25 t199.length co25)) (fun _ hk => hk.2) (.int .i64 t202)) (fun _ hk => hk.2) (.int .i64 t203)) (fun _ hk => hk.2) (.int .i64 t204)) (fun _ hk => hk.2) (.slice Ao30 t205.length co30)) (fun _ hk => hk.2) (.slice Ao32 t208.length co32)) (fun _ h_ => h_.1)) (fun _ h_ => h_.1))) hb);have n1_ := Aside0.mk (Kd.V_elder' (by (with_reducible repeat (first|apply Kd.V_alloc|apply Kd.V_drewN|apply Kd.V_drew));exact (Kd.V_mono (Kd.V_mono (Kd.V_far (p := ⟨gb191,4,none⟩) (Kd.V_far (p := ⟨gb191,3,none⟩) (Kd.V_far (p := ⟨gb191,2,none⟩) (Kd.V_far (p := ⟨gb191,1,none⟩) (Kd.V_far (p := ⟨gb191,0,none⟩) (Kd.V_far (p := ⟨gb190,4,none⟩) (Kd.V_far (p := ⟨gb190,3,none⟩) (Kd.V_far (p := ⟨gb190,2,none⟩) (Kd.V_far (p := ⟨gb190,1,none⟩) (Kd.V_far (p := ⟨gb190,0,none⟩) (Kd.V_mono (Kd.V_mono HO201.out (fun k_ hk => (⟨hk,hk.1.2.1⟩ : _ ∧ k_ ≠ gb190))) (fun k_ hk => (⟨hk,hk.1.1.2.2⟩ : _ ∧ k_ ≠ gb191))) (fun _ hk => hk.1.2) (.int .i64 t193)) (fun _ hk => hk.1.2) (.int .i64 t194)) (fun _ hk => hk.1.2) (.int .i64 t195)) (fun _ hk => hk.1.2) (.slice Ao23 t196.length co23)) (fun _ hk => hk.1.2) (.slice Ao25 t199.length co25)) (fun _ hk => hk.2) (.int .i64 t202)) (fun _ hk => hk.2) (.int .i64 t203)) (fun _ hk => hk.2) (.int .i64 t204)) (fun _ hk => hk.2) (.slice Ao30 t205.length co30)) (fun _ hk => hk.2) (.slice Ao32 t208.length co32)) (fun _ h_ => h_.1)) (fun _ h_ => h_.1))) (Kd.R_base ho0) hb);have n2_ := Aside0.mk (Kd.R_below (by (with_reducible repeat (first|apply Kd.R_alloc|apply Kd.R_drewN|apply Kd.R_drew));exact (Kd.R_mono (Kd.R_mono (Kd.R_far (p := ⟨gb191,4,none⟩) (Kd.R_far (p := ⟨gb191,3,none⟩) (Kd.R_far (p := ⟨gb191,2,none⟩) (Kd.R_far (p := ⟨gb191,1,none⟩) (Kd.R_far (p := ⟨gb191,0,none⟩) (Kd.R_far (p := ⟨gb190,4,none⟩) (Kd.R_far (p := ⟨gb190,3,none⟩) (Kd.R_far (p := ⟨gb190,2,none⟩) (Kd.R_far (p := ⟨gb190,1,none⟩) (Kd.R_far (p := ⟨gb190,0,none⟩) (Kd.R_types (Kd.R_types HO207.out BK190.out (by decide)) BK191.out (by decide)) (fun _ hk => hk.1.2) (.int .i64 t193)) (fun _ hk => hk.1.2) (.int .i64 t194)) (fun _ hk => hk.1.2) (.int .i64 t195)) (fun _ hk => hk.1.2) (.slice Ao23 t196.length co23)) (fun _ hk => hk.1.2) (.slice Ao25 t199.length co25)) (fun _ hk => hk.2) (.int .i64 t202)) (fun _ hk => hk.2) (.int .i64 t203)) (fun _ hk => hk.2) (.int .i64 t204)) (fun _ hk => hk.2) (.slice Ao30 t205.length co30)) (fun _ hk => hk.2) (.slice Ao32 t208.length co32)) (fun _ h_ => h_.1)) (fun _ h_ => h_.1))) hb);have n3_ := Aside0.mk (Kd.V_elder' (by (with_reducible repeat (first|apply Kd.V_alloc|apply Kd.V_drewN|apply Kd.V_drew));exact (Kd.V_mono (Kd.V_mono (Kd.V_far (p := ⟨gb191,4,none⟩) (Kd.V_far (p := ⟨gb191,3,none⟩) (Kd.V_far (p := ⟨gb191,2,none⟩) (Kd.V_far (p := ⟨gb191,1,none⟩) (Kd.V_far (p := ⟨gb191,0,none⟩) (Kd.V_far (p := ⟨gb190,4,none⟩) (Kd.V_far (p := ⟨gb190,3,none⟩) (Kd.V_far (p := ⟨gb190,2,none⟩) (Kd.V_far (p := ⟨gb190,1,none⟩) (Kd.V_far (p := ⟨gb190,0,none⟩) (Kd.V_mono (Kd.V_mono HO210.out (fun k_ hk => (⟨hk,hk.2.2.1⟩ : _ ∧ k_ ≠ gb190))) (fun k_ hk => (⟨hk,hk.1.2.2.2⟩ : _ ∧ k_ ≠ gb191))) (fun _ hk => hk.1.2) (.int .i64 t193)) (fun _ hk => hk.1.2) (.int .i64 t194)) (fun _ hk => hk.1.2) (.int .i64 t195)) (fun _ hk => hk.1.2) (.slice Ao23 t196.length co23)) (fun _ hk => hk.1.2) (.slice Ao25 t199.length co25)) (fun _ hk => hk.2) (.int .i64 t202)) (fun _ hk => hk.2) (.int .i64 t203)) (fun _ hk => hk.2) (.int .i64 t204)) (fun _ hk => hk.2) (.slice Ao30 t205.length co30)) (fun _ hk => hk.2) (.slice Ao32 t208.length co32)) (fun _ h_ => h_.1)) (fun _ h_ => h_.1))) (Kd.R_base ho0) hb);have n4_ := Aside0.mk (Kd.R_lower ho0 (below_size (by repeat (first|(with_reducible first|exact HB.out|apply below_alloc|apply pw_below_drewN|apply below_drew1|refine below_set ?_ GE190.out|refine below_set ?_ GE191.out)|exact HB.out))));have n5_ := Aside0.mk (blk_below (g := gb190) (o := .cells #[.int .i64 t193,.int .i64 t194,.int .i64 t195,.slice Ao23 t196.length co23,.slice Ao25 t199.length co25] 43 (0,0)) (by (with_reducible repeat (first|refine blk_drewN ?_ _|refine blk_drew ?_|refine blk_alloc ?_ _));refine blk_far ?_ NB190_191.out _;(with_reducible repeat (first|refine blk_drewN ?_ _|refine blk_drew ?_|refine blk_alloc ?_ _));refine blk_far ?_ NB190_191.out _;(with_reducible repeat (first|refine blk_drewN ?_ _|refine blk_drew ?_|refine blk_alloc ?_ _));refine blk_far ?_ NB190_191.out _;(with_reducible repeat (first|refine blk_drewN ?_ _|refine blk_drew ?_|refine blk_alloc ?_ _));refine blk_far ?_ NB190_191.out _;(with_reducible repeat (first|refine blk_drewN ?_ _|refine blk_drew ?_|refine blk_alloc ?_ _));refine blk_far ?_ NB190_191.out _;(with_reducible repeat (first|refine blk_drewN ?_ _|refine blk_drew ?_|refine blk_alloc ?_ _));refine blk_put (cs := #[.int .i64 t193,.int .i64 t194,.int .i64 t195,.slice Ao23 t196.length co23,.slice A0_4 l0_4.length c0_4]) ?_ 4 _ rfl;(with_reducible repeat (first|refine blk_drewN ?_ _|refine blk_drew ?_|refine blk_alloc ?_ _));refine blk_put (cs := #[.int .i64 t193,.int .i64 t194,.int .i64 t195,.slice A0_3 l0_3.length c0_3,.slice A0_4 l0_4.length c0_4]) ?_ 3 _ rfl;(with_reducible repeat (first|refine blk_drewN ?_ _|refine blk_drew ?_|refine blk_alloc ?_ _));refine blk_put (cs := #[.int .i64 t193,.int .i64 t194,.int .i64 a0_2,.slice A0_3 l0_3.length c0_3,.slice A0_4 l0_4.length c0_4]) ?_ 2 _ rfl;(with_reducible repeat (first|refine blk_drewN ?_ _|refine blk_drew ?_|refine blk_alloc ?_ _));refine blk_put (cs := #[.int .i64 t193,.int .i64 a0_1,.int .i64 a0_2,.slice A0_3 l0_3.length c0_3,.slice A0_4 l0_4.length c0_4]) ?_ 1 _ rfl;(with_reducible repeat (first|refine blk_drewN ?_ _|refine blk_drew ?_|refine blk_alloc ?_ _));refine blk_put (cs := #[.int .i64 a0_0,.int .i64 a0_1,.int .i64 a0_2,.slice A0_3 l0_3.length c0_3,.slice A0_4 l0_4.length c0_4]) ?_ 0 _ rfl;(with_reducible repeat (first|refine blk_drewN ?_ _|refine blk_drew ?_|refine blk_alloc ?_ _));exact BK190.out) hb);have n6_ := Aside0.mk (blk_below (g := gb191) (o := .cells #[.int .i64 t202,.int .i64 t203,.int .i64 t204,.slice Ao30 t205.length co30,.slice Ao32 t208.length co32] 43 (0,0)) (by (with_reducible repeat (first|refine blk_drewN ?_ _|refine blk_drew ?_|refine blk_alloc ?_ _));refine blk_put (cs := #[.int .i64 t202,.int .i64 t203,.int .i64 t204,.slice Ao30 t205.length co30,.slice A1_4 l1_4.length c1_4]) ?_ 4 _ rfl;(with_reducible repeat (first|refine blk_drewN ?_ _|refine blk_drew ?_|refine blk_alloc ?_ _));refine blk_put (cs := #[.int .i64 t202,.int .i64 t203,.int .i64 t204,.slice A1_3 l1_3.length c1_3,.slice A1_4 l1_4.length c1_4]) ?_ 3 _ rfl;(with_reducible repeat (first|refine blk_drewN ?_ _|refine blk_drew ?_|refine blk_alloc ?_ _));refine blk_put (cs := #[.int .i64 t202,.int .i64 t203,.int .i64 a1_2,.slice A1_3 l1_3.length c1_3,.slice A1_4 l1_4.length c1_4]) ?_ 2 _ rfl;(with_reducible repeat (first|refine blk_drewN ?_ _|refine blk_drew ?_|refine blk_alloc ?_ _));refine blk_put (cs := #[.int .i64 t202,.int .i64 a1_1,.int .i64 a1_2,.slice A1_3 l1_3.length c1_3,.slice A1_4 l1_4.length c1_4]) ?_ 1 _ rfl;(with_reducible repeat (first|refine blk_drewN ?_ _|refine blk_drew ?_|refine blk_alloc ?_ _));refine blk_put (cs := #[.int .i64 a1_0,.int .i64 a1_1,.int .i64 a1_2,.slice A1_3 l1_3.length c1_3,.slice A1_4 l1_4.length c1_4]) ?_ 0 _ rfl;(with_reducible repeat (first|refine blk_drewN ?_ _|refine blk_drew ?_|refine blk_alloc ?_ _));refine blk_far ?_ NB191_190.out _;(with_reducible repeat (first|refine blk_drewN ?_ _|refine blk_drew ?_|refine blk_alloc ?_ _));refine blk_far ?_ NB191_190.out _;(with_reducible repeat (first|refine blk_drewN ?_ _|refine blk_drew ?_|refine blk_alloc ?_ _));refine blk_far ?_ NB191_190.out _;(with_reducible repeat (first|refine blk_drewN ?_ _|refine blk_drew ?_|refine blk_alloc ?_ _));refine blk_far ?_ NB191_190.out _;(with_reducible repeat (first|refine blk_drewN ?_ _|refine blk_drew ?_|refine blk_alloc ?_ _));refine blk_far ?_ NB191_190.out _;(with_reducible repeat (first|refine blk_drewN ?_ _|refine blk_drew ?_|refine blk_alloc ?_ _));exact BK191.out) hb);have n7_ := Aside0.mk (below_step (by repeat (first|(with_reducible first|exact HB.out|apply below_alloc|apply pw_below_drewN|apply below_drew1|refine below_set ?_ GE190.out|refine below_set ?_ GE191.out)|exact HB.out)) hb);clear HO198;clear HO201;clear HO207;clear HO210;clear BK190;clear BK191;clear HB;have HO198 := n0_;have HO201 := n1_;have HO207 := n2_;have HO210 := n3_;have HO213 := n4_;have BK190 := n5_;have BK191 := n6_;have HB := n7_;clear n0_ n1_ n2_ n3_ n4_ n5_ n6_ n7_;(try clear hb);(try clear hb2);(try clear hk);(try clear hi);(try clear ho0);have hcz37_0 : w36.cell? ⟨gb190,0,none⟩ = some (.int .i64 t193) := (blk_cell BK190.out 0).trans rfl;have hcz37_1 : w36.cell? ⟨gb190,1,none⟩ = some (.int .i64 t194) := (blk_cell BK190.out 1).trans rfl;have hcz37_2 : w36.cell? ⟨gb190,2,none⟩ = some (.int .i64 t195) := (blk_cell BK190.out 2).trans rfl;have hcz37_3 : w36.cell? ⟨gb190,3,none⟩ = some (.slice Ao23 t196.length co23) := (blk_cell BK190.out 3).trans rfl;have hcz37_4 : w36.cell? ⟨gb190,4,none⟩ = some (.slice Ao25 t199.length co25) := (blk_cell BK190.out 4).trans rfl;have hfz37_0 := blk_frozen BK190.out 0;have hfz37_1 := blk_frozen BK190.out 1;have hfz37_2 := blk_frozen BK190.out 2;have hfz37_3 := blk_frozen BK190.out 3;have hfz37_4 := blk_frozen BK190.out 4)|((with_reducible refine gate_callee (f := 26) rfl ?_);refine goesL_ (some 31) rfl rfl Try.func26 (by kernel_rfl) rfl #[.agg #[.int .i64 t193,.int .i64 t194,.int .i64 t195,.slice Ao23 t196.length co23,.slice Ao25 t199.length co25]] rfl (by (try simp only [List.map_toArray,List.map_cons,List.map_nil]);first | done | rfl|(simp only [List.length_drop,List.length_take];rfl)) ?_;(with_reducible refine (incipitref12_MayEdit.calls k t193 t194 t195 _ _ t196 _ _ t199 true _ ?side1 ?side2 ?side3 ?side4 A10.out).mono ?_);(case side1 => repeat (first|exact (Kd.R_reads' HO198.out).2.2|(with_reducible refine Kd.C_alloc ?_ _)|(with_reducible refine Kd.C_drewN ?_ _)|(with_reducible refine Kd.C_drew ?_)));(case side2 => exact (Kd.R_reads' HO198.out).2.1);(case side3 => repeat (first|exact (Kd.V_reads' HO201.out).2.2|(with_reducible refine Kd.C_alloc ?_ _)|(with_reducible refine Kd.C_drewN ?_ _)|(with_reducible refine Kd.C_drew ?_)));(case side4 => exact (Kd.V_reads' HO201.out).2.1);rintro e w38 ⟨rfl,hb⟩;refine ⟨_,rfl,?_⟩;have n0_ := Aside0.mk (Kd.R_below (by (with_reducible repeat (first|apply Kd.R_alloc|apply Kd.R_drewN|apply Kd.R_drew));exact HO198.out) hb);have n1_ := Aside0.mk (Kd.V_below (by (with_reducible repeat (first|apply Kd.V_alloc|apply Kd.V_drewN|apply Kd.V_drew));exact HO201.out) hb);have n2_ := Aside0.mk (Kd.R_below (by (with_reducible repeat (first|apply Kd.R_alloc|apply Kd.R_drewN|apply Kd.R_drew));exact HO207.out) hb);have n3_ := Aside0.mk (Kd.V_below (by (with_reducible repeat (first|apply Kd.V_alloc|apply Kd.V_drewN|apply Kd.V_drew));exact HO210.out) hb);have n4_ := Aside0.mk (Kd.R_below (by (with_reducible repeat (first|apply Kd.R_alloc|apply Kd.R_drewN|apply Kd.R_drew));exact HO213.out) hb);have n5_ := Aside0.mk (blk_below (g := gb190) (o := .cells #[.int .i64 t193,.int .i64 t194,.int .i64 t195,.slice Ao23 t196.length co23,.slice Ao25 t199.length co25] 43 (0,0)) (by (with_reducible repeat (first|refine blk_drewN ?_ _|refine blk_drew ?_|refine blk_alloc ?_ _));exact BK190.out) hb);have n6_ := Aside0.mk (blk_below (g := gb191) (o := .cells #[.int .i64 t202,.int .i64 t203,.int .i64 t204,.slice Ao30 t205.length co30,.slice Ao32 t208.length co32] 43 (0,0)) (by (with_reducible repeat (first|refine blk_drewN ?_ _|refine blk_drew ?_|refine blk_alloc ?_ _));exact BK191.out) hb);have n7_ := Aside0.mk (below_step (by repeat (first|(with_reducible first|exact HB.out|apply below_alloc|apply pw_below_drewN|apply below_drew1|refine below_set ?_ GE190.out|refine below_set ?_ GE191.out)|exact HB.out)) hb);clear HO198;clear HO201;clear HO207;clear HO210;clear HO213;clear BK190;clear BK191;clear HB;have HO198 := n0_;have HO201 := n1_;have HO207 := n2_;have HO210 := n3_;have HO213 := n4_;have BK190 := n5_;have BK191 := n6_;have HB := n7_;clear n0_ n1_ n2_ n3_ n4_ n5_ n6_ n7_;(try clear hb);(try clear hb2);(try clear hk);(try clear hi);obtain ⟨Ao39,co39,eo39⟩ := Kd.R_slice HO213.out;subst eo39)|((with_reducible refine gate_callee (f := 28) rfl ?_);refine goesL_ (some 47) rfl rfl Try.func28 (by kernel_rfl) rfl #[.slice Ao39 t211.length co39] rfl (by (try simp only [List.map_toArray,List.map_cons,List.map_nil]);first | done | rfl|(simp only [List.length_drop,List.length_take];rfl)) ?_;(with_reducible refine (edit_Decode.calls k _ _ t211 t217 t218 t219 t220 t223 t226 _ ?side1 ?side2 A12.out).mono ?_);(case side1 => repeat (first|exact (Kd.R_reads' HO213.out).2.2|(with_reducible refine Kd.C_alloc ?_ _)|(with_reducible refine Kd.C_drewN ?_ _)|(with_reducible refine Kd.C_drew ?_)));(case side2 => exact (Kd.R_reads' HO213.out).2.1);rintro e w40 ⟨v221,v224,rfl,ho0,ho1,hb⟩;refine ⟨_,rfl,?_⟩;have n0_ := Aside0.mk (Kd.R_elder' (by (with_reducible repeat (first|apply Kd.R_alloc|apply Kd.R_drewN|apply Kd.R_drew));exact HO198.out) (Kd.R_base ho0) hb);have n1_ := Aside0.mk (Kd.V_mono (Kd.V_told (Kd.V_told (Kd.V_old (by (with_reducible repeat (first|apply Kd.V_alloc|apply Kd.V_drewN|apply Kd.V_drew));exact HO201.out) hb) (Kd.R_base ho0)) (Kd.R_base ho1)) (fun _ h_ => h_.1));have n2_ := Aside0.mk (Kd.R_elder' (by (with_reducible repeat (first|apply Kd.R_alloc|apply Kd.R_drewN|apply Kd.R_drew));exact HO207.out) (Kd.R_base ho0) hb);have n3_ := Aside0.mk (Kd.V_mono (Kd.V_told (Kd.V_told (Kd.V_old (by (with_reducible repeat (first|apply Kd.V_alloc|apply Kd.V_drewN|apply Kd.V_drew));exact HO210.out) hb) (Kd.R_base ho0)) (Kd.R_base ho1)) (fun _ h_ => h_.1));have n4_ := Aside0.mk (Kd.R_below (by (with_reducible repeat (first|apply Kd.R_alloc|apply Kd.R_drewN|apply Kd.R_drew));exact HO213.out) hb);have n5_ := Aside0.mk (Kd.R_lower (Kd.R_new' (Kd.R_new' ho0 (Kd.R_lt (by (with_reducible repeat (first|apply Kd.R_alloc|apply Kd.R_drewN|apply Kd.R_drew));exact HO198.out))) (Kd.R_lt (by (with_reducible repeat (first|apply Kd.R_alloc|apply Kd.R_drewN|apply Kd.R_drew));exact HO207.out))) (below_size (by repeat (first|(with_reducible first|exact HB.out|apply below_alloc|apply pw_below_drewN|apply below_drew1|refine below_set ?_ GE190.out|refine below_set ?_ GE191.out)|exact HB.out))));have n6_ := Aside0.mk (Kd.R_lower ho1 (below_size (by repeat (first|(with_reducible first|exact HB.out|apply below_alloc|apply pw_below_drewN|apply below_drew1|refine below_set ?_ GE190.out|refine below_set ?_ GE191.out)|exact HB.out))));have n7_ := Aside0.mk (blk_below (g := gb190) (o := .cells #[.int .i64 t193,.int .i64 t194,.int .i64 t195,.slice Ao23 t196.length co23,.slice Ao25 t199.length co25] 43 (0,0)) (by (with_reducible repeat (first|refine blk_drewN ?_ _|refine blk_drew ?_|refine blk_alloc ?_ _));exact BK190.out) hb);have n8_ := Aside0.mk (blk_below (g := gb191) (o := .cells #[.int .i64 t202,.int .i64 t203,.int .i64 t204,.slice Ao30 t205.length co30,.slice Ao32 t208.length co32] 43 (0,0)) (by (with_reducible repeat (first|refine blk_drewN ?_ _|refine blk_drew ?_|refine blk_alloc ?_ _));exact BK191.out) hb);have n9_ := Aside0.mk (below_step (by repeat (first|(with_reducible first|exact HB.out|apply below_alloc|apply pw_below_drewN|apply below_drew1|refine below_set ?_ GE190.out|refine below_set ?_ GE191.out)|exact HB.out)) hb);clear HO198;clear HO201;clear HO207;clear HO210;clear HO213;clear BK190;clear BK191;clear HB;have HO198 := n0_;have HO201 := n1_;have HO207 := n2_;have HO210 := n3_;have HO213 := n4_;have HO222 := n5_;have HO225 := n6_;have BK190 := n7_;have BK191 := n8_;have HB := n9_;clear n0_ n1_ n2_ n3_ n4_ n5_ n6_ n7_ n8_ n9_;(try clear hb);(try clear hb2);(try clear hk);(try clear hi);(try clear ho0);(try clear ho1))|((with_reducible refine gate_dst (N := 12) rfl ?_);(try (refine gate_guard (by rfl) ?_;dsimp only));refine box_event ?hg (N := 12) ?hd (cs := #[.int .i64 0,.int .i64 0,.int .i64 0,.slice none 0 0,.slice none 0 0]) (t := 43) ?hr ?_;(case hd => rfl);(case hg => rfl);(case hr => first|(go_simp;done)|(go_simp;rfl));intro gb227 hg w41 hbox hb;have n0_ := Aside0.mk (Kd.R_below (by (with_reducible repeat (first|apply Kd.R_alloc|apply Kd.R_drewN|apply Kd.R_drew));exact HO198.out) hb);have n1_ := Aside0.mk (Kd.V_below (Kd.V_elderB (by (with_reducible repeat (first|apply Kd.V_alloc|apply Kd.V_drewN|apply Kd.V_drew));exact HO201.out) gb227 (Nat.le_of_eq hg.symm)) hb);have n2_ := Aside0.mk (Kd.R_below (by (with_reducible repeat (first|apply Kd.R_alloc|apply Kd.R_drewN|apply Kd.R_drew));exact HO207.out) hb);have n3_ := Aside0.mk (Kd.V_below (Kd.V_elderB (by (with_reducible repeat (first|apply Kd.V_alloc|apply Kd.V_drewN|apply Kd.V_drew));exact HO210.out) gb227 (Nat.le_of_eq hg.symm)) hb);have n4_ := Aside0.mk (Kd.R_below (by (with_reducible repeat (first|apply Kd.R_alloc|apply Kd.R_drewN|apply Kd.R_drew));exact HO213.out) hb);have n5_ := Aside0.mk (Kd.R_below (by (with_reducible repeat (first|apply Kd.R_alloc|apply Kd.R_drewN|apply Kd.R_drew));exact HO222.out) hb);have n6_ := Aside0.mk (Kd.R_below (by (with_reducible repeat (first|apply Kd.R_alloc|apply Kd.R_drewN|apply Kd.R_drew));exact HO225.out) hb);have n7_ := Aside0.mk (blk_below (g := gb190) (o := .cells #[.int .i64 t193,.int .i64 t194,.int .i64 t195,.slice Ao23 t196.length co23,.slice Ao25 t199.length co25] 43 (0,0)) (by (with_reducible repeat (first|refine blk_drewN ?_ _|refine blk_drew ?_|refine blk_alloc ?_ _));exact BK190.out) hb);have n8_ := Aside0.mk (blk_below (g := gb191) (o := .cells #[.int .i64 t202,.int .i64 t203,.int .i64 t204,.slice Ao30 t205.length co30,.slice Ao32 t208.length co32] 43 (0,0)) (by (with_reducible repeat (first|refine blk_drewN ?_ _|refine blk_drew ?_|refine blk_alloc ?_ _));exact BK191.out) hb);have n9_ := Aside0.mk (below_step (by repeat (first|(with_reducible first|exact HB.out|apply below_alloc|apply pw_below_drewN|apply below_drew1|refine below_set ?_ GE190.out|refine below_set ?_ GE191.out)|exact HB.out)) hb);have n10_ := Aside0.mk (hbox);have n11_ := Aside0.mk ((by rw [hg];exact (below_size (by repeat (first|(with_reducible first|exact HB.out|apply below_alloc|apply pw_below_drewN|apply below_drew1|refine below_set ?_ GE190.out|refine below_set ?_ GE191.out)|exact HB.out))) : w.heap.size ≤ gb227));have n12_ := Aside0.mk ((by rw [hg];exact (below_size (by repeat (first|(with_reducible first|exact HB.out|apply below_alloc|apply pw_below_drewN|apply below_drew1|refine below_set ?_ GE190.out|refine below_set ?_ GE191.out)|exact HB.out))) : w.heap.size ≤ gb227));have n13_ := Aside0.mk ((by rw [hg];exact Nat.ne_of_lt (blk_lt (g := gb190) (o := .cells #[.int .i64 t193,.int .i64 t194,.int .i64 t195,.slice Ao23 t196.length co23,.slice Ao25 t199.length co25] 43 (0,0)) (by (with_reducible repeat (first|refine blk_drewN ?_ _|refine blk_drew ?_|refine blk_alloc ?_ _));exact BK190.out)) : gb190 ≠ gb227));have n14_ := Aside0.mk ((by rw [hg];exact Nat.ne_of_gt (blk_lt (g := gb190) (o := .cells #[.int .i64 t193,.int .i64 t194,.int .i64 t195,.slice Ao23 t196.length co23,.slice Ao25 t199.length co25] 43 (0,0)) (by (with_reducible repeat (first|refine blk_drewN ?_ _|refine blk_drew ?_|refine blk_alloc ?_ _));exact BK190.out)) : gb227 ≠ gb190));have n15_ := Aside0.mk ((by rw [hg];exact Nat.ne_of_lt (blk_lt (g := gb191) (o := .cells #[.int .i64 t202,.int .i64 t203,.int .i64 t204,.slice Ao30 t205.length co30,.slice Ao32 t208.length co32] 43 (0,0)) (by (with_reducible repeat (first|refine blk_drewN ?_ _|refine blk_drew ?_|refine blk_alloc ?_ _));exact BK191.out)) : gb191 ≠ gb227));have n16_ := Aside0.mk ((by rw [hg];exact Nat.ne_of_gt (blk_lt (g := gb191) (o := .cells #[.int .i64 t202,.int .i64 t203,.int .i64 t204,.slice Ao30 t205.length co30,.slice Ao32 t208.length co32] 43 (0,0)) (by (with_reducible repeat (first|refine blk_drewN ?_ _|refine blk_drew ?_|refine blk_alloc ?_ _));exact BK191.out)) : gb227 ≠ gb191));clear HO198;clear HO201;clear HO207;clear HO210;clear HO213;clear HO222;clear HO225;clear BK190;clear BK191;clear HB;have HO198 := n0_;have HO201 := n1_;have HO207 := n2_;have HO210 := n3_;have HO213 := n4_;have HO222 := n5_;have HO225 := n6_;have BK190 := n7_;have BK191 := n8_;have HB := n9_;have BK227 := n10_;have GW227 := n11_;have GE227 := n12_;have NB190_227 := n13_;have NB227_190 := n14_;have NB191_227 := n15_;have NB227_191 := n16_;clear n0_ n1_ n2_ n3_ n4_ n5_ n6_ n7_ n8_ n9_ n10_ n11_ n12_ n13_ n14_ n15_ n16_;clear hb hbox hg;have hnb42 := NB227_190.out;have hnc42 := NB190_227.out;have hnb43 := NB227_191.out;have hnc43 := NB191_227.out;have hcz44_0 : w41.cell? ⟨gb227,0,none⟩ = some (.int .i64 0) := (blk_cell BK227.out 0).trans rfl;have hcz44_1 : w41.cell? ⟨gb227,1,none⟩ = some (.int .i64 0) := (blk_cell BK227.out 1).trans rfl;have hcz44_2 : w41.cell? ⟨gb227,2,none⟩ = some (.int .i64 0) := (blk_cell BK227.out 2).trans rfl;have hcz44_3 : w41.cell? ⟨gb227,3,none⟩ = some (.slice none 0 0) := (blk_cell BK227.out 3).trans rfl;have hcz44_4 : w41.cell? ⟨gb227,4,none⟩ = some (.slice none 0 0) := (blk_cell BK227.out 4).trans rfl;have hfz44_0 := blk_frozen BK227.out 0;have hfz44_1 := blk_frozen BK227.out 1;have hfz44_2 := blk_frozen BK227.out 2;have hfz44_3 := blk_frozen BK227.out 3;have hfz44_4 := blk_frozen BK227.out 4;obtain ⟨Ao45,co45,eo45⟩ := Kd.R_slice HO222.out;subst eo45;obtain ⟨Ao46,co46,eo46⟩ := Kd.R_slice HO225.out;subst eo46))
   (try simp only [Act.put,List.setIfInBounds_toArray,List.set_cons_zero,List.set_cons_succ])
   go_cut [66] (fun v66 wc => ∃ (kq : Nat) (x66_12 : Bool),v66 = .bool x66_12 ∧ Aside0 (incipitlaw19_EditBytes.j0 kq a2 a3 t211 x66_12 t193 t194 t195 t196 t199 t202 t203 t204 t205 t208 = some r) ∧ Aside0 (kq ≤ k) ∧ Aside0 (Kd.R (Kd.int .u8) 5 wc w.heap.size (fun _ => True) (.slice Ao39 t211.length co39) t211) ∧ Aside0 (Kd.R k55 55 wc w.heap.size (fun k_ => some k_ ≠ ((.slice Ao30 t205.length co30) : Value).ownBlock ∧ some k_ ≠ ((.slice Ao45 t220.length co45) : Value).ownBlock) (.slice Ao23 t196.length co23) t196) ∧ Aside0 (Kd.V (Kd.int .i64) 2 wc w.heap.size (fun k_ => some k_ ≠ ((.slice Ao39 t211.length co39) : Value).ownBlock ∧ some k_ ≠ ((.slice Ao23 t196.length co23) : Value).ownBlock ∧ some k_ ≠ ((.slice Ao30 t205.length co30) : Value).ownBlock ∧ some k_ ≠ ((.slice Ao45 t220.length co45) : Value).ownBlock ∧ some k_ ≠ ((.slice Ao46 t223.length co46) : Value).ownBlock ∧ k_ ≠ gb190 ∧ k_ ≠ gb191 ∧ k_ ≠ gb227) (.slice Ao25 t199.length co25) t199) ∧ Aside0 (Kd.R k55 55 wc w.heap.size (fun k_ => some k_ ≠ ((.slice Ao23 t196.length co23) : Value).ownBlock ∧ some k_ ≠ ((.slice Ao45 t220.length co45) : Value).ownBlock) (.slice Ao30 t205.length co30) t205) ∧ Aside0 (Kd.V (Kd.int .i64) 2 wc w.heap.size (fun k_ => some k_ ≠ ((.slice Ao39 t211.length co39) : Value).ownBlock ∧ some k_ ≠ ((.slice Ao23 t196.length co23) : Value).ownBlock ∧ some k_ ≠ ((.slice Ao30 t205.length co30) : Value).ownBlock ∧ some k_ ≠ ((.slice Ao45 t220.length co45) : Value).ownBlock ∧ some k_ ≠ ((.slice Ao46 t223.length co46) : Value).ownBlock ∧ k_ ≠ gb190 ∧ k_ ≠ gb191 ∧ k_ ≠ gb227) (.slice Ao32 t208.length co32) t208) ∧ Aside0 (Kd.R k55 55 wc w.heap.size (fun k_ => some k_ ≠ ((.slice Ao23 t196.length co23) : Value).ownBlock ∧ some k_ ≠ ((.slice Ao30 t205.length co30) : Value).ownBlock) (.slice Ao45 t220.length co45) t220) ∧ Aside0 (Kd.R (Kd.int .i64) 2 wc w.heap.size (fun _ => True) (.slice Ao46 t223.length co46) t223) ∧ Aside0 (wc.heap[gb190]? = some (.cells #[.int .i64 t193,.int .i64 t194,.int .i64 t195,(.slice Ao23 t196.length co23),(.slice Ao25 t199.length co25)] 43 (0,0))) ∧ Aside0 (wc.heap[gb191]? = some (.cells #[.int .i64 t202,.int .i64 t203,.int .i64 t204,(.slice Ao30 t205.length co30),(.slice Ao32 t208.length co32)] 43 (0,0))) ∧ Aside0 (wc.heap[gb227]? = some (.cells #[.int .i64 t217,.int .i64 t218,.int .i64 t219,(.slice Ao45 t220.length co45),(.slice Ao46 t223.length co46)] 43 (0,0))) ∧ Aside0 (Below w.heap.size w wc))
   case first =>
    have H := HC13.out
    clear HC13
    by_cases c47 : t214 = 0
    ·rw [if_pos c47] at H
     have c47b0 : (t214 == 0) = true := beq_iff_eq.mpr c47
     have c47b1 : (t214 != 0) = false := bne_eq_false_iff_eq.mpr c47
     clear c47
     (first | rw [c47b0]|(simp only [i64_w,i32_w];rw [c47b0]) | skip)
     by_cases c48 : t226 = 0
     ·rw [if_pos c48] at H
      have c48b0 : (t226 == 0) = true := beq_iff_eq.mpr c48
      have c48b1 : (t226 != 0) = false := bne_eq_false_iff_eq.mpr c48
      clear c48
      replace H := Option.bind_eq_some_iff.mp H
      obtain ⟨t228,A490,H⟩ := H
      replace H : (if t228 = true then ((edit_Check.f k t193 t194 t195 t196 t199).bind fun t229 => (incipitlaw19_EditBytes.j0 k a2 a3 t211 (t229 != 0) t193 t194 t195 t196 t199 t202 t203 t204 t205 t208)) else (incipitlaw19_EditBytes.j0 k a2 a3 t211 true t193 t194 t195 t196 t199 t202 t203 t204 t205 t208)) = some r := H
      have A49 := Aside0.mk A490
      clear A490
      by_cases c50 : t228 = true
      ·subst c50
       have H1 : ((edit_Check.f k t193 t194 t195 t196 t199).bind fun t229 => (incipitlaw19_EditBytes.j0 k a2 a3 t211 (t229 != 0) t193 t194 t195 t196 t199 t202 t203 t204 t205 t208)) = some r := by rw [if_pos rfl] at H;exact H
       clear H
       have H := H1
       clear H1
       replace H := Option.bind_eq_some_iff.mp H
       obtain ⟨t229,A510,H⟩ := H
       replace H : (incipitlaw19_EditBytes.j0 k a2 a3 t211 (t229 != 0) t193 t194 t195 t196 t199 t202 t203 t204 t205 t208) = some r := H
       have A51 := Aside0.mk A510
       clear A510
       have H' := Aside0.mk H
       clear H
       have hnb52 := NB190_191.out
       have hnc52 := NB191_190.out
       have hnb53 := NB190_227.out
       have hnc53 := NB227_190.out
       have hcz54_0 : w41.cell? ⟨gb190,0,none⟩ = some (.int .i64 t193) := (blk_cell BK190.out 0).trans rfl
       have hcz54_1 : w41.cell? ⟨gb190,1,none⟩ = some (.int .i64 t194) := (blk_cell BK190.out 1).trans rfl
       have hcz54_2 : w41.cell? ⟨gb190,2,none⟩ = some (.int .i64 t195) := (blk_cell BK190.out 2).trans rfl
       have hcz54_3 : w41.cell? ⟨gb190,3,none⟩ = some (.slice Ao23 t196.length co23) := (blk_cell BK190.out 3).trans rfl
       have hcz54_4 : w41.cell? ⟨gb190,4,none⟩ = some (.slice Ao25 t199.length co25) := (blk_cell BK190.out 4).trans rfl
       have hfz54_0 := blk_frozen BK190.out 0
       have hfz54_1 := blk_frozen BK190.out 1
       have hfz54_2 := blk_frozen BK190.out 2
       have hfz54_3 := blk_frozen BK190.out 3
       have hfz54_4 := blk_frozen BK190.out 4
       have hnb55 := NB227_191.out
       have hnc55 := NB191_227.out
       have hcz56_0 : w41.cell? ⟨gb227,0,none⟩ = some (.int .i64 0) := (blk_cell BK227.out 0).trans rfl
       have hcz56_1 : w41.cell? ⟨gb227,1,none⟩ = some (.int .i64 0) := (blk_cell BK227.out 1).trans rfl
       have hcz56_2 : w41.cell? ⟨gb227,2,none⟩ = some (.int .i64 0) := (blk_cell BK227.out 2).trans rfl
       have hcz56_3 : w41.cell? ⟨gb227,3,none⟩ = some (.slice none 0 0) := (blk_cell BK227.out 3).trans rfl
       have hcz56_4 : w41.cell? ⟨gb227,4,none⟩ = some (.slice none 0 0) := (blk_cell BK227.out 4).trans rfl
       have hfz56_0 := blk_frozen BK227.out 0
       have hfz56_1 := blk_frozen BK227.out 1
       have hfz56_2 := blk_frozen BK227.out 2
       have hfz56_3 := blk_frozen BK227.out 3
       have hfz56_4 := blk_frozen BK227.out 4
       go_wp2_with (first|(go_at_call 29;(with_reducible refine (incipitref12_EqEdit.calls k t193 t194 t195 _ _ t196 _ _ t199 t217 t218 t219 _ _ t220 _ _ t223 true _ ?side1 ?side2 ?side3 ?side4 ?side5 ?side6 ?side7 ?side8 A49.out).mono ?_);(case side1 => refine (Kd.R_reads' (e := 55) (base := w.heap.size) (ok := fun k_ => ((True ∧ some k_ ≠ (.slice Ao30 t205.length co30 : Value).ownBlock) ∧ some k_ ≠ (.slice Ao45 t220.length co45 : Value).ownBlock)) (n := t196.length) (c := co23) ?_).2.2;exact (by (with_reducible repeat (first|apply Kd.R_alloc|apply Kd.R_drewN|apply Kd.R_drew));exact (Kd.R_mono (Kd.R_far (p := ⟨gb227,4,none⟩) (Kd.R_far (p := ⟨gb227,3,none⟩) (Kd.R_far (p := ⟨gb227,2,none⟩) (Kd.R_far (p := ⟨gb227,1,none⟩) (Kd.R_far (p := ⟨gb227,0,none⟩) (Kd.R_types HO198.out BK227.out (by decide)) (fun _ hk => hk.2) (.int .i64 t217)) (fun _ hk => hk.2) (.int .i64 t218)) (fun _ hk => hk.2) (.int .i64 t219)) (fun _ hk => hk.2) (.slice Ao45 t220.length co45)) (fun _ hk => hk.2) (.slice Ao46 t223.length co46)) (fun _ h_ => h_.1))));(case side2 => exact (Kd.R_reads' HO198.out).2.1);(case side3 => refine (Kd.V_reads' (e := 2) (base := w.heap.size) (ok := fun k_ => ((((((some k_ ≠ (.slice Ao23 t196.length co23 : Value).ownBlock ∧ (k_ ≠ gb190 ∧ k_ ≠ gb191)) ∧ some k_ ≠ (.slice Ao30 t205.length co30 : Value).ownBlock) ∧ some k_ ≠ (.slice Ao39 t211.length co39 : Value).ownBlock) ∧ some k_ ≠ (.slice Ao45 t220.length co45 : Value).ownBlock) ∧ some k_ ≠ (.slice Ao46 t223.length co46 : Value).ownBlock) ∧ k_ ≠ gb227)) (n := t199.length) (c := co25) ?_).2.2;exact (by (with_reducible repeat (first|apply Kd.V_alloc|apply Kd.V_drewN|apply Kd.V_drew));exact (Kd.V_mono (Kd.V_far (p := ⟨gb227,4,none⟩) (Kd.V_far (p := ⟨gb227,3,none⟩) (Kd.V_far (p := ⟨gb227,2,none⟩) (Kd.V_far (p := ⟨gb227,1,none⟩) (Kd.V_far (p := ⟨gb227,0,none⟩) (Kd.V_mono HO201.out (fun k_ hk => (⟨hk,hk.2⟩ : _ ∧ k_ ≠ gb227))) (fun _ hk => hk.2) (.int .i64 t217)) (fun _ hk => hk.2) (.int .i64 t218)) (fun _ hk => hk.2) (.int .i64 t219)) (fun _ hk => hk.2) (.slice Ao45 t220.length co45)) (fun _ hk => hk.2) (.slice Ao46 t223.length co46)) (fun _ h_ => h_.1))));(case side4 => exact (Kd.V_reads' HO201.out).2.1);(case side5 => refine (Kd.R_reads' (e := 55) (base := w.heap.size) (ok := fun k_ => ((True ∧ some k_ ≠ (.slice Ao23 t196.length co23 : Value).ownBlock) ∧ some k_ ≠ (.slice Ao30 t205.length co30 : Value).ownBlock)) (n := t220.length) (c := co45) ?_).2.2;exact (by (with_reducible repeat (first|apply Kd.R_alloc|apply Kd.R_drewN|apply Kd.R_drew));exact (Kd.R_mono (Kd.R_far (p := ⟨gb227,4,none⟩) (Kd.R_far (p := ⟨gb227,3,none⟩) (Kd.R_far (p := ⟨gb227,2,none⟩) (Kd.R_far (p := ⟨gb227,1,none⟩) (Kd.R_far (p := ⟨gb227,0,none⟩) (Kd.R_types HO222.out BK227.out (by decide)) (fun _ hk => hk.2) (.int .i64 t217)) (fun _ hk => hk.2) (.int .i64 t218)) (fun _ hk => hk.2) (.int .i64 t219)) (fun _ hk => hk.2) (.slice Ao45 t220.length co45)) (fun _ hk => hk.2) (.slice Ao46 t223.length co46)) (fun _ h_ => h_.1))));(case side6 => exact (Kd.R_reads' HO222.out).2.1);(case side7 => refine (Kd.R_reads' (e := 2) (base := w.heap.size) (ok := fun k_ => True) (n := t223.length) (c := co46) ?_).2.2;exact (by (with_reducible repeat (first|apply Kd.R_alloc|apply Kd.R_drewN|apply Kd.R_drew));exact (Kd.R_mono (Kd.R_far (p := ⟨gb227,4,none⟩) (Kd.R_far (p := ⟨gb227,3,none⟩) (Kd.R_far (p := ⟨gb227,2,none⟩) (Kd.R_far (p := ⟨gb227,1,none⟩) (Kd.R_far (p := ⟨gb227,0,none⟩) (Kd.R_types HO225.out BK227.out (by decide)) (fun _ hk => hk.2) (.int .i64 t217)) (fun _ hk => hk.2) (.int .i64 t218)) (fun _ hk => hk.2) (.int .i64 t219)) (fun _ hk => hk.2) (.slice Ao45 t220.length co45)) (fun _ hk => hk.2) (.slice Ao46 t223.length co46)) (fun _ h_ => h_.1))));(case side8 => exact (Kd.R_reads' HO225.out).2.1);rintro e w57 ⟨rfl,hb⟩;have n0_ := Aside0.mk (Kd.R_below (by (with_reducible repeat (first|apply Kd.R_alloc|apply Kd.R_drewN|apply Kd.R_drew));exact (Kd.R_mono (Kd.R_far (p := ⟨gb227,4,none⟩) (Kd.R_far (p := ⟨gb227,3,none⟩) (Kd.R_far (p := ⟨gb227,2,none⟩) (Kd.R_far (p := ⟨gb227,1,none⟩) (Kd.R_far (p := ⟨gb227,0,none⟩) (Kd.R_types HO198.out BK227.out (by decide)) (fun _ hk => hk.2) (.int .i64 t217)) (fun _ hk => hk.2) (.int .i64 t218)) (fun _ hk => hk.2) (.int .i64 t219)) (fun _ hk => hk.2) (.slice Ao45 t220.length co45)) (fun _ hk => hk.2) (.slice Ao46 t223.length co46)) (fun _ h_ => h_.1))) hb);have n1_ := Aside0.mk (Kd.V_below (by (with_reducible repeat (first|apply Kd.V_alloc|apply Kd.V_drewN|apply Kd.V_drew));exact (Kd.V_mono (Kd.V_far (p := ⟨gb227,4,none⟩) (Kd.V_far (p := ⟨gb227,3,none⟩) (Kd.V_far (p := ⟨gb227,2,none⟩) (Kd.V_far (p := ⟨gb227,1,none⟩) (Kd.V_far (p := ⟨gb227,0,none⟩) (Kd.V_mono HO201.out (fun k_ hk => (⟨hk,hk.2⟩ : _ ∧ k_ ≠ gb227))) (fun _ hk => hk.2) (.int .i64 t217)) (fun _ hk => hk.2) (.int .i64 t218)) (fun _ hk => hk.2) (.int .i64 t219)) (fun _ hk => hk.2) (.slice Ao45 t220.length co45)) (fun _ hk => hk.2) (.slice Ao46 t223.length co46)) (fun _ h_ => h_.1))) hb);have n2_ := Aside0.mk (Kd.R_below (by (with_reducible repeat (first|apply Kd.R_alloc|apply Kd.R_drewN|apply Kd.R_drew));exact (Kd.R_mono (Kd.R_far (p := ⟨gb227,4,none⟩) (Kd.R_far (p := ⟨gb227,3,none⟩) (Kd.R_far (p := ⟨gb227,2,none⟩) (Kd.R_far (p := ⟨gb227,1,none⟩) (Kd.R_far (p := ⟨gb227,0,none⟩) (Kd.R_types HO207.out BK227.out (by decide)) (fun _ hk => hk.2) (.int .i64 t217)) (fun _ hk => hk.2) (.int .i64 t218)) (fun _ hk => hk.2) (.int .i64 t219)) (fun _ hk => hk.2) (.slice Ao45 t220.length co45)) (fun _ hk => hk.2) (.slice Ao46 t223.length co46)) (fun _ h_ => h_.1))) hb);have n3_ := Aside0.mk (Kd.V_below (by (with_reducible repeat (first|apply Kd.V_alloc|apply Kd.V_drewN|apply Kd.V_drew));exact (Kd.V_mono (Kd.V_far (p := ⟨gb227,4,none⟩) (Kd.V_far (p := ⟨gb227,3,none⟩) (Kd.V_far (p := ⟨gb227,2,none⟩) (Kd.V_far (p := ⟨gb227,1,none⟩) (Kd.V_far (p := ⟨gb227,0,none⟩) (Kd.V_mono HO210.out (fun k_ hk => (⟨hk,hk.2⟩ : _ ∧ k_ ≠ gb227))) (fun _ hk => hk.2) (.int .i64 t217)) (fun _ hk => hk.2) (.int .i64 t218)) (fun _ hk => hk.2) (.int .i64 t219)) (fun _ hk => hk.2) (.slice Ao45 t220.length co45)) (fun _ hk => hk.2) (.slice Ao46 t223.length co46)) (fun _ h_ => h_.1))) hb);have n4_ := Aside0.mk (Kd.R_below (by (with_reducible repeat (first|apply Kd.R_alloc|apply Kd.R_drewN|apply Kd.R_drew));exact (Kd.R_mono (Kd.R_far (p := ⟨gb227,4,none⟩) (Kd.R_far (p := ⟨gb227,3,none⟩) (Kd.R_far (p := ⟨gb227,2,none⟩) (Kd.R_far (p := ⟨gb227,1,none⟩) (Kd.R_far (p := ⟨gb227,0,none⟩) (Kd.R_types HO213.out BK227.out (by decide)) (fun _ hk => hk.2) (.int .i64 t217)) (fun _ hk => hk.2) (.int .i64 t218)) (fun _ hk => hk.2) (.int .i64 t219)) (fun _ hk => hk.2) (.slice Ao45 t220.length co45)) (fun _ hk => hk.2) (.slice Ao46 t223.length co46)) (fun _ h_ => h_.1))) hb);have n5_ := Aside0.mk (Kd.R_below (by (with_reducible repeat (first|apply Kd.R_alloc|apply Kd.R_drewN|apply Kd.R_drew));exact (Kd.R_mono (Kd.R_far (p := ⟨gb227,4,none⟩) (Kd.R_far (p := ⟨gb227,3,none⟩) (Kd.R_far (p := ⟨gb227,2,none⟩) (Kd.R_far (p := ⟨gb227,1,none⟩) (Kd.R_far (p := ⟨gb227,0,none⟩) (Kd.R_types HO222.out BK227.out (by decide)) (fun _ hk => hk.2) (.int .i64 t217)) (fun _ hk => hk.2) (.int .i64 t218)) (fun _ hk => hk.2) (.int .i64 t219)) (fun _ hk => hk.2) (.slice Ao45 t220.length co45)) (fun _ hk => hk.2) (.slice Ao46 t223.length co46)) (fun _ h_ => h_.1))) hb);have n6_ := Aside0.mk (Kd.R_below (by (with_reducible repeat (first|apply Kd.R_alloc|apply Kd.R_drewN|apply Kd.R_drew));exact (Kd.R_mono (Kd.R_far (p := ⟨gb227,4,none⟩) (Kd.R_far (p := ⟨gb227,3,none⟩) (Kd.R_far (p := ⟨gb227,2,none⟩) (Kd.R_far (p := ⟨gb227,1,none⟩) (Kd.R_far (p := ⟨gb227,0,none⟩) (Kd.R_types HO225.out BK227.out (by decide)) (fun _ hk => hk.2) (.int .i64 t217)) (fun _ hk => hk.2) (.int .i64 t218)) (fun _ hk => hk.2) (.int .i64 t219)) (fun _ hk => hk.2) (.slice Ao45 t220.length co45)) (fun _ hk => hk.2) (.slice Ao46 t223.length co46)) (fun _ h_ => h_.1))) hb);have n7_ := Aside0.mk (blk_below (g := gb190) (o := .cells #[.int .i64 t193,.int .i64 t194,.int .i64 t195,.slice Ao23 t196.length co23,.slice Ao25 t199.length co25] 43 (0,0)) (by (with_reducible repeat (first|refine blk_drewN ?_ _|refine blk_drew ?_|refine blk_alloc ?_ _));refine blk_far ?_ NB190_227.out _;(with_reducible repeat (first|refine blk_drewN ?_ _|refine blk_drew ?_|refine blk_alloc ?_ _));refine blk_far ?_ NB190_227.out _;(with_reducible repeat (first|refine blk_drewN ?_ _|refine blk_drew ?_|refine blk_alloc ?_ _));refine blk_far ?_ NB190_227.out _;(with_reducible repeat (first|refine blk_drewN ?_ _|refine blk_drew ?_|refine blk_alloc ?_ _));refine blk_far ?_ NB190_227.out _;(with_reducible repeat (first|refine blk_drewN ?_ _|refine blk_drew ?_|refine blk_alloc ?_ _));refine blk_far ?_ NB190_227.out _;(with_reducible repeat (first|refine blk_drewN ?_ _|refine blk_drew ?_|refine blk_alloc ?_ _));exact BK190.out) hb);have n8_ := Aside0.mk (blk_below (g := gb191) (o := .cells #[.int .i64 t202,.int .i64 t203,.int .i64 t204,.slice Ao30 t205.length co30,.slice Ao32 t208.length co32] 43 (0,0)) (by (with_reducible repeat (first|refine blk_drewN ?_ _|refine blk_drew ?_|refine blk_alloc ?_ _));refine blk_far ?_ NB191_227.out _;(with_reducible repeat (first|refine blk_drewN ?_ _|refine blk_drew ?_|refine blk_alloc ?_ _));refine blk_far ?_ NB191_227.out _;(with_reducible repeat (first|refine blk_drewN ?_ _|refine blk_drew ?_|refine blk_alloc ?_ _));refine blk_far ?_ NB191_227.out _;(with_reducible repeat (first|refine blk_drewN ?_ _|refine blk_drew ?_|refine blk_alloc ?_ _));refine blk_far ?_ NB191_227.out _;(with_reducible repeat (first|refine blk_drewN ?_ _|refine blk_drew ?_|refine blk_alloc ?_ _));refine blk_far ?_ NB191_227.out _;(with_reducible repeat (first|refine blk_drewN ?_ _|refine blk_drew ?_|refine blk_alloc ?_ _));exact BK191.out) hb);have n9_ := Aside0.mk (blk_below (g := gb227) (o := .cells #[.int .i64 t217,.int .i64 t218,.int .i64 t219,.slice Ao45 t220.length co45,.slice Ao46 t223.length co46] 43 (0,0)) (by (with_reducible repeat (first|refine blk_drewN ?_ _|refine blk_drew ?_|refine blk_alloc ?_ _));refine blk_put (cs := #[.int .i64 t217,.int .i64 t218,.int .i64 t219,.slice Ao45 t220.length co45,.slice none 0 0]) ?_ 4 _ rfl;(with_reducible repeat (first|refine blk_drewN ?_ _|refine blk_drew ?_|refine blk_alloc ?_ _));refine blk_put (cs := #[.int .i64 t217,.int .i64 t218,.int .i64 t219,.slice none 0 0,.slice none 0 0]) ?_ 3 _ rfl;(with_reducible repeat (first|refine blk_drewN ?_ _|refine blk_drew ?_|refine blk_alloc ?_ _));refine blk_put (cs := #[.int .i64 t217,.int .i64 t218,.int .i64 0,.slice none 0 0,.slice none 0 0]) ?_ 2 _ rfl;(with_reducible repeat (first|refine blk_drewN ?_ _|refine blk_drew ?_|refine blk_alloc ?_ _));refine blk_put (cs := #[.int .i64 t217,.int .i64 0,.int .i64 0,.slice none 0 0,.slice none 0 0]) ?_ 1 _ rfl;(with_reducible repeat (first|refine blk_drewN ?_ _|refine blk_drew ?_|refine blk_alloc ?_ _));refine blk_put (cs := #[.int .i64 0,.int .i64 0,.int .i64 0,.slice none 0 0,.slice none 0 0]) ?_ 0 _ rfl;(with_reducible repeat (first|refine blk_drewN ?_ _|refine blk_drew ?_|refine blk_alloc ?_ _));exact BK227.out) hb);have n10_ := Aside0.mk (below_step (by repeat (first|(with_reducible first|exact HB.out|apply below_alloc|apply pw_below_drewN|apply below_drew1|refine below_set ?_ GE190.out|refine below_set ?_ GE191.out|refine below_set ?_ GE227.out)|exact HB.out)) hb);clear HO198;clear HO201;clear HO207;clear HO210;clear HO213;clear HO222;clear HO225;clear BK190;clear BK191;clear BK227;clear HB;have HO198 := n0_;have HO201 := n1_;have HO207 := n2_;have HO210 := n3_;have HO213 := n4_;have HO222 := n5_;have HO225 := n6_;have BK190 := n7_;have BK191 := n8_;have BK227 := n9_;have HB := n10_;clear n0_ n1_ n2_ n3_ n4_ n5_ n6_ n7_ n8_ n9_ n10_;(try clear hb);(try clear hb2);(try clear hk);(try clear hi);have hcz58_0 : w57.cell? ⟨gb190,0,none⟩ = some (.int .i64 t193) := (blk_cell BK190.out 0).trans rfl;have hcz58_1 : w57.cell? ⟨gb190,1,none⟩ = some (.int .i64 t194) := (blk_cell BK190.out 1).trans rfl;have hcz58_2 : w57.cell? ⟨gb190,2,none⟩ = some (.int .i64 t195) := (blk_cell BK190.out 2).trans rfl;have hcz58_3 : w57.cell? ⟨gb190,3,none⟩ = some (.slice Ao23 t196.length co23) := (blk_cell BK190.out 3).trans rfl;have hcz58_4 : w57.cell? ⟨gb190,4,none⟩ = some (.slice Ao25 t199.length co25) := (blk_cell BK190.out 4).trans rfl;have hfz58_0 := blk_frozen BK190.out 0;have hfz58_1 := blk_frozen BK190.out 1;have hfz58_2 := blk_frozen BK190.out 2;have hfz58_3 := blk_frozen BK190.out 3;have hfz58_4 := blk_frozen BK190.out 4)|(go_at_call 27;(with_reducible refine (edit_Check.calls k t193 t194 t195 _ _ t196 _ _ t199 t229 _ ?side1 ?side2 ?side3 ?side4 A51.out).mono ?_);(case side1 => repeat (first|exact (Kd.R_reads' HO198.out).2.2|(with_reducible refine Kd.C_alloc ?_ _)|(with_reducible refine Kd.C_drewN ?_ _)|(with_reducible refine Kd.C_drew ?_)));(case side2 => exact (Kd.R_reads' HO198.out).2.1);(case side3 => repeat (first|exact (Kd.V_reads' HO201.out).2.2|(with_reducible refine Kd.C_alloc ?_ _)|(with_reducible refine Kd.C_drewN ?_ _)|(with_reducible refine Kd.C_drew ?_)));(case side4 => exact (Kd.V_reads' HO201.out).2.1);rintro e w59 ⟨rfl,hb⟩;have n0_ := Aside0.mk (Kd.R_below (by (with_reducible repeat (first|apply Kd.R_alloc|apply Kd.R_drewN|apply Kd.R_drew));exact HO198.out) hb);have n1_ := Aside0.mk (Kd.V_below (by (with_reducible repeat (first|apply Kd.V_alloc|apply Kd.V_drewN|apply Kd.V_drew));exact HO201.out) hb);have n2_ := Aside0.mk (Kd.R_below (by (with_reducible repeat (first|apply Kd.R_alloc|apply Kd.R_drewN|apply Kd.R_drew));exact HO207.out) hb);have n3_ := Aside0.mk (Kd.V_below (by (with_reducible repeat (first|apply Kd.V_alloc|apply Kd.V_drewN|apply Kd.V_drew));exact HO210.out) hb);have n4_ := Aside0.mk (Kd.R_below (by (with_reducible repeat (first|apply Kd.R_alloc|apply Kd.R_drewN|apply Kd.R_drew));exact HO213.out) hb);have n5_ := Aside0.mk (Kd.R_below (by (with_reducible repeat (first|apply Kd.R_alloc|apply Kd.R_drewN|apply Kd.R_drew));exact HO222.out) hb);have n6_ := Aside0.mk (Kd.R_below (by (with_reducible repeat (first|apply Kd.R_alloc|apply Kd.R_drewN|apply Kd.R_drew));exact HO225.out) hb);have n7_ := Aside0.mk (blk_below (g := gb190) (o := .cells #[.int .i64 t193,.int .i64 t194,.int .i64 t195,.slice Ao23 t196.length co23,.slice Ao25 t199.length co25] 43 (0,0)) (by (with_reducible repeat (first|refine blk_drewN ?_ _|refine blk_drew ?_|refine blk_alloc ?_ _));exact BK190.out) hb);have n8_ := Aside0.mk (blk_below (g := gb191) (o := .cells #[.int .i64 t202,.int .i64 t203,.int .i64 t204,.slice Ao30 t205.length co30,.slice Ao32 t208.length co32] 43 (0,0)) (by (with_reducible repeat (first|refine blk_drewN ?_ _|refine blk_drew ?_|refine blk_alloc ?_ _));exact BK191.out) hb);have n9_ := Aside0.mk (blk_below (g := gb227) (o := .cells #[.int .i64 t217,.int .i64 t218,.int .i64 t219,.slice Ao45 t220.length co45,.slice Ao46 t223.length co46] 43 (0,0)) (by (with_reducible repeat (first|refine blk_drewN ?_ _|refine blk_drew ?_|refine blk_alloc ?_ _));exact BK227.out) hb);have n10_ := Aside0.mk (below_step (by repeat (first|(with_reducible first|exact HB.out|apply below_alloc|apply pw_below_drewN|apply below_drew1|refine below_set ?_ GE190.out|refine below_set ?_ GE191.out|refine below_set ?_ GE227.out)|exact HB.out)) hb);clear HO198;clear HO201;clear HO207;clear HO210;clear HO213;clear HO222;clear HO225;clear BK190;clear BK191;clear BK227;clear HB;have HO198 := n0_;have HO201 := n1_;have HO207 := n2_;have HO210 := n3_;have HO213 := n4_;have HO222 := n5_;have HO225 := n6_;have BK190 := n7_;have BK191 := n8_;have BK227 := n9_;have HB := n10_;clear n0_ n1_ n2_ n3_ n4_ n5_ n6_ n7_ n8_ n9_ n10_;(try clear hb);(try clear hb2);(try clear hk);(try clear hi)))
       go_meet
       case rel => exact ⟨_,((t229 != 0)),(by first | rfl|(simp;done)|(simp [*];done)),H',⟨by first | omega|exact Nat.le_refl _⟩,⟨by (with_reducible repeat (first|apply Kd.R_alloc|apply Kd.R_drewN|apply Kd.R_drew));exact HO213.out⟩,⟨by (with_reducible repeat (first|apply Kd.R_alloc|apply Kd.R_drewN|apply Kd.R_drew));exact Kd.R_mono HO198.out (fun _ hk => ⟨hk.1.2,hk.2⟩)⟩,⟨by (with_reducible repeat (first|apply Kd.V_alloc|apply Kd.V_drewN|apply Kd.V_drew));exact Kd.V_mono HO201.out (fun _ hk => ⟨hk.1.1.1.2,⟨hk.1.1.1.1.1.1,⟨hk.1.1.1.1.2,⟨hk.1.1.2,⟨hk.1.2,⟨hk.1.1.1.1.1.2.1,⟨hk.1.1.1.1.1.2.2,hk.2⟩⟩⟩⟩⟩⟩⟩)⟩,⟨by (with_reducible repeat (first|apply Kd.R_alloc|apply Kd.R_drewN|apply Kd.R_drew));exact Kd.R_mono HO207.out (fun _ hk => ⟨hk.1.2,hk.2⟩)⟩,⟨by (with_reducible repeat (first|apply Kd.V_alloc|apply Kd.V_drewN|apply Kd.V_drew));exact Kd.V_mono HO210.out (fun _ hk => ⟨hk.1.1.1.2,⟨hk.1.1.1.1.2.1,⟨hk.1.1.1.1.1,⟨hk.1.1.2,⟨hk.1.2,⟨hk.1.1.1.1.2.2.1,⟨hk.1.1.1.1.2.2.2,hk.2⟩⟩⟩⟩⟩⟩⟩)⟩,⟨by (with_reducible repeat (first|apply Kd.R_alloc|apply Kd.R_drewN|apply Kd.R_drew));exact Kd.R_mono HO222.out (fun _ hk => ⟨hk.1.2,hk.2⟩)⟩,⟨by (with_reducible repeat (first|apply Kd.R_alloc|apply Kd.R_drewN|apply Kd.R_drew));exact HO225.out⟩,⟨by (with_reducible repeat (first|refine blk_drewN ?_ _|refine blk_drew ?_|refine blk_alloc ?_ _));exact BK190.out⟩,⟨by (with_reducible repeat (first|refine blk_drewN ?_ _|refine blk_drew ?_|refine blk_alloc ?_ _));exact BK191.out⟩,⟨by (with_reducible repeat (first|refine blk_drewN ?_ _|refine blk_drew ?_|refine blk_alloc ?_ _));exact BK227.out⟩,⟨by repeat (first|(with_reducible first|exact HB.out|apply below_alloc|apply pw_below_drewN|apply below_drew1|refine below_set ?_ GE190.out|refine below_set ?_ GE191.out|refine below_set ?_ GE227.out)|exact HB.out)⟩⟩
      ·replace c50 := Bool.eq_false_iff.mpr c50
       subst c50
       have H1 : (incipitlaw19_EditBytes.j0 k a2 a3 t211 true t193 t194 t195 t196 t199 t202 t203 t204 t205 t208) = some r := by rw [if_neg (show ¬ (false = true) by decide)] at H;exact H
       clear H
       have H := H1
       clear H1
       have H' := Aside0.mk H
       clear H
       have hnb60 := NB190_191.out
       have hnc60 := NB191_190.out
       have hnb61 := NB190_227.out
       have hnc61 := NB227_190.out
       have hcz62_0 : w41.cell? ⟨gb190,0,none⟩ = some (.int .i64 t193) := (blk_cell BK190.out 0).trans rfl
       have hcz62_1 : w41.cell? ⟨gb190,1,none⟩ = some (.int .i64 t194) := (blk_cell BK190.out 1).trans rfl
       have hcz62_2 : w41.cell? ⟨gb190,2,none⟩ = some (.int .i64 t195) := (blk_cell BK190.out 2).trans rfl
       have hcz62_3 : w41.cell? ⟨gb190,3,none⟩ = some (.slice Ao23 t196.length co23) := (blk_cell BK190.out 3).trans rfl
       have hcz62_4 : w41.cell? ⟨gb190,4,none⟩ = some (.slice Ao25 t199.length co25) := (blk_cell BK190.out 4).trans rfl
       have hfz62_0 := blk_frozen BK190.out 0
       have hfz62_1 := blk_frozen BK190.out 1
       have hfz62_2 := blk_frozen BK190.out 2
       have hfz62_3 := blk_frozen BK190.out 3
       have hfz62_4 := blk_frozen BK190.out 4
       have hnb63 := NB227_191.out
       have hnc63 := NB191_227.out
       have hcz64_0 : w41.cell? ⟨gb227,0,none⟩ = some (.int .i64 0) := (blk_cell BK227.out 0).trans rfl
       have hcz64_1 : w41.cell? ⟨gb227,1,none⟩ = some (.int .i64 0) := (blk_cell BK227.out 1).trans rfl
       have hcz64_2 : w41.cell? ⟨gb227,2,none⟩ = some (.int .i64 0) := (blk_cell BK227.out 2).trans rfl
       have hcz64_3 : w41.cell? ⟨gb227,3,none⟩ = some (.slice none 0 0) := (blk_cell BK227.out 3).trans rfl
       have hcz64_4 : w41.cell? ⟨gb227,4,none⟩ = some (.slice none 0 0) := (blk_cell BK227.out 4).trans rfl
       have hfz64_0 := blk_frozen BK227.out 0
       have hfz64_1 := blk_frozen BK227.out 1
       have hfz64_2 := blk_frozen BK227.out 2
       have hfz64_3 := blk_frozen BK227.out 3
       have hfz64_4 := blk_frozen BK227.out 4
       go_wp2_with (first|(go_at_call 29;(with_reducible refine (incipitref12_EqEdit.calls k t193 t194 t195 _ _ t196 _ _ t199 t217 t218 t219 _ _ t220 _ _ t223 false _ ?side1 ?side2 ?side3 ?side4 ?side5 ?side6 ?side7 ?side8 A49.out).mono ?_);(case side1 => refine (Kd.R_reads' (e := 55) (base := w.heap.size) (ok := fun k_ => ((True ∧ some k_ ≠ (.slice Ao30 t205.length co30 : Value).ownBlock) ∧ some k_ ≠ (.slice Ao45 t220.length co45 : Value).ownBlock)) (n := t196.length) (c := co23) ?_).2.2;exact (by (with_reducible repeat (first|apply Kd.R_alloc|apply Kd.R_drewN|apply Kd.R_drew));exact (Kd.R_mono (Kd.R_far (p := ⟨gb227,4,none⟩) (Kd.R_far (p := ⟨gb227,3,none⟩) (Kd.R_far (p := ⟨gb227,2,none⟩) (Kd.R_far (p := ⟨gb227,1,none⟩) (Kd.R_far (p := ⟨gb227,0,none⟩) (Kd.R_types HO198.out BK227.out (by decide)) (fun _ hk => hk.2) (.int .i64 t217)) (fun _ hk => hk.2) (.int .i64 t218)) (fun _ hk => hk.2) (.int .i64 t219)) (fun _ hk => hk.2) (.slice Ao45 t220.length co45)) (fun _ hk => hk.2) (.slice Ao46 t223.length co46)) (fun _ h_ => h_.1))));(case side2 => exact (Kd.R_reads' HO198.out).2.1);(case side3 => refine (Kd.V_reads' (e := 2) (base := w.heap.size) (ok := fun k_ => ((((((some k_ ≠ (.slice Ao23 t196.length co23 : Value).ownBlock ∧ (k_ ≠ gb190 ∧ k_ ≠ gb191)) ∧ some k_ ≠ (.slice Ao30 t205.length co30 : Value).ownBlock) ∧ some k_ ≠ (.slice Ao39 t211.length co39 : Value).ownBlock) ∧ some k_ ≠ (.slice Ao45 t220.length co45 : Value).ownBlock) ∧ some k_ ≠ (.slice Ao46 t223.length co46 : Value).ownBlock) ∧ k_ ≠ gb227)) (n := t199.length) (c := co25) ?_).2.2;exact (by (with_reducible repeat (first|apply Kd.V_alloc|apply Kd.V_drewN|apply Kd.V_drew));exact (Kd.V_mono (Kd.V_far (p := ⟨gb227,4,none⟩) (Kd.V_far (p := ⟨gb227,3,none⟩) (Kd.V_far (p := ⟨gb227,2,none⟩) (Kd.V_far (p := ⟨gb227,1,none⟩) (Kd.V_far (p := ⟨gb227,0,none⟩) (Kd.V_mono HO201.out (fun k_ hk => (⟨hk,hk.2⟩ : _ ∧ k_ ≠ gb227))) (fun _ hk => hk.2) (.int .i64 t217)) (fun _ hk => hk.2) (.int .i64 t218)) (fun _ hk => hk.2) (.int .i64 t219)) (fun _ hk => hk.2) (.slice Ao45 t220.length co45)) (fun _ hk => hk.2) (.slice Ao46 t223.length co46)) (fun _ h_ => h_.1))));(case side4 => exact (Kd.V_reads' HO201.out).2.1);(case side5 => refine (Kd.R_reads' (e := 55) (base := w.heap.size) (ok := fun k_ => ((True ∧ some k_ ≠ (.slice Ao23 t196.length co23 : Value).ownBlock) ∧ some k_ ≠ (.slice Ao30 t205.length co30 : Value).ownBlock)) (n := t220.length) (c := co45) ?_).2.2;exact (by (with_reducible repeat (first|apply Kd.R_alloc|apply Kd.R_drewN|apply Kd.R_drew));exact (Kd.R_mono (Kd.R_far (p := ⟨gb227,4,none⟩) (Kd.R_far (p := ⟨gb227,3,none⟩) (Kd.R_far (p := ⟨gb227,2,none⟩) (Kd.R_far (p := ⟨gb227,1,none⟩) (Kd.R_far (p := ⟨gb227,0,none⟩) (Kd.R_types HO222.out BK227.out (by decide)) (fun _ hk => hk.2) (.int .i64 t217)) (fun _ hk => hk.2) (.int .i64 t218)) (fun _ hk => hk.2) (.int .i64 t219)) (fun _ hk => hk.2) (.slice Ao45 t220.length co45)) (fun _ hk => hk.2) (.slice Ao46 t223.length co46)) (fun _ h_ => h_.1))));(case side6 => exact (Kd.R_reads' HO222.out).2.1);(case side7 => refine (Kd.R_reads' (e := 2) (base := w.heap.size) (ok := fun k_ => True) (n := t223.length) (c := co46) ?_).2.2;exact (by (with_reducible repeat (first|apply Kd.R_alloc|apply Kd.R_drewN|apply Kd.R_drew));exact (Kd.R_mono (Kd.R_far (p := ⟨gb227,4,none⟩) (Kd.R_far (p := ⟨gb227,3,none⟩) (Kd.R_far (p := ⟨gb227,2,none⟩) (Kd.R_far (p := ⟨gb227,1,none⟩) (Kd.R_far (p := ⟨gb227,0,none⟩) (Kd.R_types HO225.out BK227.out (by decide)) (fun _ hk => hk.2) (.int .i64 t217)) (fun _ hk => hk.2) (.int .i64 t218)) (fun _ hk => hk.2) (.int .i64 t219)) (fun _ hk => hk.2) (.slice Ao45 t220.length co45)) (fun _ hk => hk.2) (.slice Ao46 t223.length co46)) (fun _ h_ => h_.1))));(case side8 => exact (Kd.R_reads' HO225.out).2.1);rintro e w65 ⟨rfl,hb⟩;have n0_ := Aside0.mk (Kd.R_below (by (with_reducible repeat (first|apply Kd.R_alloc|apply Kd.R_drewN|apply Kd.R_drew));exact (Kd.R_mono (Kd.R_far (p := ⟨gb227,4,none⟩) (Kd.R_far (p := ⟨gb227,3,none⟩) (Kd.R_far (p := ⟨gb227,2,none⟩) (Kd.R_far (p := ⟨gb227,1,none⟩) (Kd.R_far (p := ⟨gb227,0,none⟩) (Kd.R_types HO198.out BK227.out (by decide)) (fun _ hk => hk.2) (.int .i64 t217)) (fun _ hk => hk.2) (.int .i64 t218)) (fun _ hk => hk.2) (.int .i64 t219)) (fun _ hk => hk.2) (.slice Ao45 t220.length co45)) (fun _ hk => hk.2) (.slice Ao46 t223.length co46)) (fun _ h_ => h_.1))) hb);have n1_ := Aside0.mk (Kd.V_below (by (with_reducible repeat (first|apply Kd.V_alloc|apply Kd.V_drewN|apply Kd.V_drew));exact (Kd.V_mono (Kd.V_far (p := ⟨gb227,4,none⟩) (Kd.V_far (p := ⟨gb227,3,none⟩) (Kd.V_far (p := ⟨gb227,2,none⟩) (Kd.V_far (p := ⟨gb227,1,none⟩) (Kd.V_far (p := ⟨gb227,0,none⟩) (Kd.V_mono HO201.out (fun k_ hk => (⟨hk,hk.2⟩ : _ ∧ k_ ≠ gb227))) (fun _ hk => hk.2) (.int .i64 t217)) (fun _ hk => hk.2) (.int .i64 t218)) (fun _ hk => hk.2) (.int .i64 t219)) (fun _ hk => hk.2) (.slice Ao45 t220.length co45)) (fun _ hk => hk.2) (.slice Ao46 t223.length co46)) (fun _ h_ => h_.1))) hb);have n2_ := Aside0.mk (Kd.R_below (by (with_reducible repeat (first|apply Kd.R_alloc|apply Kd.R_drewN|apply Kd.R_drew));exact (Kd.R_mono (Kd.R_far (p := ⟨gb227,4,none⟩) (Kd.R_far (p := ⟨gb227,3,none⟩) (Kd.R_far (p := ⟨gb227,2,none⟩) (Kd.R_far (p := ⟨gb227,1,none⟩) (Kd.R_far (p := ⟨gb227,0,none⟩) (Kd.R_types HO207.out BK227.out (by decide)) (fun _ hk => hk.2) (.int .i64 t217)) (fun _ hk => hk.2) (.int .i64 t218)) (fun _ hk => hk.2) (.int .i64 t219)) (fun _ hk => hk.2) (.slice Ao45 t220.length co45)) (fun _ hk => hk.2) (.slice Ao46 t223.length co46)) (fun _ h_ => h_.1))) hb);have n3_ := Aside0.mk (Kd.V_below (by (with_reducible repeat (first|apply Kd.V_alloc|apply Kd.V_drewN|apply Kd.V_drew));exact (Kd.V_mono (Kd.V_far (p := ⟨gb227,4,none⟩) (Kd.V_far (p := ⟨gb227,3,none⟩) (Kd.V_far (p := ⟨gb227,2,none⟩) (Kd.V_far (p := ⟨gb227,1,none⟩) (Kd.V_far (p := ⟨gb227,0,none⟩) (Kd.V_mono HO210.out (fun k_ hk => (⟨hk,hk.2⟩ : _ ∧ k_ ≠ gb227))) (fun _ hk => hk.2) (.int .i64 t217)) (fun _ hk => hk.2) (.int .i64 t218)) (fun _ hk => hk.2) (.int .i64 t219)) (fun _ hk => hk.2) (.slice Ao45 t220.length co45)) (fun _ hk => hk.2) (.slice Ao46 t223.length co46)) (fun _ h_ => h_.1))) hb);have n4_ := Aside0.mk (Kd.R_below (by (with_reducible repeat (first|apply Kd.R_alloc|apply Kd.R_drewN|apply Kd.R_drew));exact (Kd.R_mono (Kd.R_far (p := ⟨gb227,4,none⟩) (Kd.R_far (p := ⟨gb227,3,none⟩) (Kd.R_far (p := ⟨gb227,2,none⟩) (Kd.R_far (p := ⟨gb227,1,none⟩) (Kd.R_far (p := ⟨gb227,0,none⟩) (Kd.R_types HO213.out BK227.out (by decide)) (fun _ hk => hk.2) (.int .i64 t217)) (fun _ hk => hk.2) (.int .i64 t218)) (fun _ hk => hk.2) (.int .i64 t219)) (fun _ hk => hk.2) (.slice Ao45 t220.length co45)) (fun _ hk => hk.2) (.slice Ao46 t223.length co46)) (fun _ h_ => h_.1))) hb);have n5_ := Aside0.mk (Kd.R_below (by (with_reducible repeat (first|apply Kd.R_alloc|apply Kd.R_drewN|apply Kd.R_drew));exact (Kd.R_mono (Kd.R_far (p := ⟨gb227,4,none⟩) (Kd.R_far (p := ⟨gb227,3,none⟩) (Kd.R_far (p := ⟨gb227,2,none⟩) (Kd.R_far (p := ⟨gb227,1,none⟩) (Kd.R_far (p := ⟨gb227,0,none⟩) (Kd.R_types HO222.out BK227.out (by decide)) (fun _ hk => hk.2) (.int .i64 t217)) (fun _ hk => hk.2) (.int .i64 t218)) (fun _ hk => hk.2) (.int .i64 t219)) (fun _ hk => hk.2) (.slice Ao45 t220.length co45)) (fun _ hk => hk.2) (.slice Ao46 t223.length co46)) (fun _ h_ => h_.1))) hb);have n6_ := Aside0.mk (Kd.R_below (by (with_reducible repeat (first|apply Kd.R_alloc|apply Kd.R_drewN|apply Kd.R_drew));exact (Kd.R_mono (Kd.R_far (p := ⟨gb227,4,none⟩) (Kd.R_far (p := ⟨gb227,3,none⟩) (Kd.R_far (p := ⟨gb227,2,none⟩) (Kd.R_far (p := ⟨gb227,1,none⟩) (Kd.R_far (p := ⟨gb227,0,none⟩) (Kd.R_types HO225.out BK227.out (by decide)) (fun _ hk => hk.2) (.int .i64 t217)) (fun _ hk => hk.2) (.int .i64 t218)) (fun _ hk => hk.2) (.int .i64 t219)) (fun _ hk => hk.2) (.slice Ao45 t220.length co45)) (fun _ hk => hk.2) (.slice Ao46 t223.length co46)) (fun _ h_ => h_.1))) hb);have n7_ := Aside0.mk (blk_below (g := gb190) (o := .cells #[.int .i64 t193,.int .i64 t194,.int .i64 t195,.slice Ao23 t196.length co23,.slice Ao25 t199.length co25] 43 (0,0)) (by (with_reducible repeat (first|refine blk_drewN ?_ _|refine blk_drew ?_|refine blk_alloc ?_ _));refine blk_far ?_ NB190_227.out _;(with_reducible repeat (first|refine blk_drewN ?_ _|refine blk_drew ?_|refine blk_alloc ?_ _));refine blk_far ?_ NB190_227.out _;(with_reducible repeat (first|refine blk_drewN ?_ _|refine blk_drew ?_|refine blk_alloc ?_ _));refine blk_far ?_ NB190_227.out _;(with_reducible repeat (first|refine blk_drewN ?_ _|refine blk_drew ?_|refine blk_alloc ?_ _));refine blk_far ?_ NB190_227.out _;(with_reducible repeat (first|refine blk_drewN ?_ _|refine blk_drew ?_|refine blk_alloc ?_ _));refine blk_far ?_ NB190_227.out _;(with_reducible repeat (first|refine blk_drewN ?_ _|refine blk_drew ?_|refine blk_alloc ?_ _));exact BK190.out) hb);have n8_ := Aside0.mk (blk_below (g := gb191) (o := .cells #[.int .i64 t202,.int .i64 t203,.int .i64 t204,.slice Ao30 t205.length co30,.slice Ao32 t208.length co32] 43 (0,0)) (by (with_reducible repeat (first|refine blk_drewN ?_ _|refine blk_drew ?_|refine blk_alloc ?_ _));refine blk_far ?_ NB191_227.out _;(with_reducible repeat (first|refine blk_drewN ?_ _|refine blk_drew ?_|refine blk_alloc ?_ _));refine blk_far ?_ NB191_227.out _;(with_reducible repeat (first|refine blk_drewN ?_ _|refine blk_drew ?_|refine blk_alloc ?_ _));refine blk_far ?_ NB191_227.out _;(with_reducible repeat (first|refine blk_drewN ?_ _|refine blk_drew ?_|refine blk_alloc ?_ _));refine blk_far ?_ NB191_227.out _;(with_reducible repeat (first|refine blk_drewN ?_ _|refine blk_drew ?_|refine blk_alloc ?_ _));refine blk_far ?_ NB191_227.out _;(with_reducible repeat (first|refine blk_drewN ?_ _|refine blk_drew ?_|refine blk_alloc ?_ _));exact BK191.out) hb);have n9_ := Aside0.mk (blk_below (g := gb227) (o := .cells #[.int .i64 t217,.int .i64 t218,.int .i64 t219,.slice Ao45 t220.length co45,.slice Ao46 t223.length co46] 43 (0,0)) (by (with_reducible repeat (first|refine blk_drewN ?_ _|refine blk_drew ?_|refine blk_alloc ?_ _));refine blk_put (cs := #[.int .i64 t217,.int .i64 t218,.int .i64 t219,.slice Ao45 t220.length co45,.slice none 0 0]) ?_ 4 _ rfl;(with_reducible repeat (first|refine blk_drewN ?_ _|refine blk_drew ?_|refine blk_alloc ?_ _));refine blk_put (cs := #[.int .i64 t217,.int .i64 t218,.int .i64 t219,.slice none 0 0,.slice none 0 0]) ?_ 3 _ rfl;(with_reducible repeat (first|refine blk_drewN ?_ _|refine blk_drew ?_|refine blk_alloc ?_ _));refine blk_put (cs := #[.int .i64 t217,.int .i64 t218,.int .i64 0,.slice none 0 0,.slice none 0 0]) ?_ 2 _ rfl;(with_reducible repeat (first|refine blk_drewN ?_ _|refine blk_drew ?_|refine blk_alloc ?_ _));refine blk_put (cs := #[.int .i64 t217,.int .i64 0,.int .i64 0,.slice none 0 0,.slice none 0 0]) ?_ 1 _ rfl;(with_reducible repeat (first|refine blk_drewN ?_ _|refine blk_drew ?_|refine blk_alloc ?_ _));refine blk_put (cs := #[.int .i64 0,.int .i64 0,.int .i64 0,.slice none 0 0,.slice none 0 0]) ?_ 0 _ rfl;(with_reducible repeat (first|refine blk_drewN ?_ _|refine blk_drew ?_|refine blk_alloc ?_ _));exact BK227.out) hb);have n10_ := Aside0.mk (below_step (by repeat (first|(with_reducible first|exact HB.out|apply below_alloc|apply pw_below_drewN|apply below_drew1|refine below_set ?_ GE190.out|refine below_set ?_ GE191.out|refine below_set ?_ GE227.out)|exact HB.out)) hb);clear HO198;clear HO201;clear HO207;clear HO210;clear HO213;clear HO222;clear HO225;clear BK190;clear BK191;clear BK227;clear HB;have HO198 := n0_;have HO201 := n1_;have HO207 := n2_;have HO210 := n3_;have HO213 := n4_;have HO222 := n5_;have HO225 := n6_;have BK190 := n7_;have BK191 := n8_;have BK227 := n9_;have HB := n10_;clear n0_ n1_ n2_ n3_ n4_ n5_ n6_ n7_ n8_ n9_ n10_;(try clear hb);(try clear hb2);(try clear hk);(try clear hi)))
       go_meet
       case rel => exact ⟨_,(true),(by first | rfl|(simp;done)|(simp [*];done)),H',⟨by first | omega|exact Nat.le_refl _⟩,⟨by (with_reducible repeat (first|apply Kd.R_alloc|apply Kd.R_drewN|apply Kd.R_drew));exact HO213.out⟩,⟨by (with_reducible repeat (first|apply Kd.R_alloc|apply Kd.R_drewN|apply Kd.R_drew));exact Kd.R_mono HO198.out (fun _ hk => ⟨hk.1.2,hk.2⟩)⟩,⟨by (with_reducible repeat (first|apply Kd.V_alloc|apply Kd.V_drewN|apply Kd.V_drew));exact Kd.V_mono HO201.out (fun _ hk => ⟨hk.1.1.1.2,⟨hk.1.1.1.1.1.1,⟨hk.1.1.1.1.2,⟨hk.1.1.2,⟨hk.1.2,⟨hk.1.1.1.1.1.2.1,⟨hk.1.1.1.1.1.2.2,hk.2⟩⟩⟩⟩⟩⟩⟩)⟩,⟨by (with_reducible repeat (first|apply Kd.R_alloc|apply Kd.R_drewN|apply Kd.R_drew));exact Kd.R_mono HO207.out (fun _ hk => ⟨hk.1.2,hk.2⟩)⟩,⟨by (with_reducible repeat (first|apply Kd.V_alloc|apply Kd.V_drewN|apply Kd.V_drew));exact Kd.V_mono HO210.out (fun _ hk => ⟨hk.1.1.1.2,⟨hk.1.1.1.1.2.1,⟨hk.1.1.1.1.1,⟨hk.1.1.2,⟨hk.1.2,⟨hk.1.1.1.1.2.2.1,⟨hk.1.1.1.1.2.2.2,hk.2⟩⟩⟩⟩⟩⟩⟩)⟩,⟨by (with_reducible repeat (first|apply Kd.R_alloc|apply Kd.R_drewN|apply Kd.R_drew));exact Kd.R_mono HO222.out (fun _ hk => ⟨hk.1.2,hk.2⟩)⟩,⟨by (with_reducible repeat (first|apply Kd.R_alloc|apply Kd.R_drewN|apply Kd.R_drew));exact HO225.out⟩,⟨by (with_reducible repeat (first|refine blk_drewN ?_ _|refine blk_drew ?_|refine blk_alloc ?_ _));exact BK190.out⟩,⟨by (with_reducible repeat (first|refine blk_drewN ?_ _|refine blk_drew ?_|refine blk_alloc ?_ _));exact BK191.out⟩,⟨by (with_reducible repeat (first|refine blk_drewN ?_ _|refine blk_drew ?_|refine blk_alloc ?_ _));exact BK227.out⟩,⟨by repeat (first|(with_reducible first|exact HB.out|apply below_alloc|apply pw_below_drewN|apply below_drew1|refine below_set ?_ GE190.out|refine below_set ?_ GE191.out|refine below_set ?_ GE227.out)|exact HB.out)⟩⟩
     ·rw [if_neg c48] at H
      have c48b0 : (t226 == 0) = false := beq_eq_false_iff_ne.mpr c48
      have c48b1 : (t226 != 0) = true := bne_iff_ne.mpr c48
      have H' := Aside0.mk H
      clear H
      go_wp2
      go_meet
      case rel => exact ⟨_,(true),(by first | rfl|(simp;done)|(simp [*];done)),H',⟨by first | omega|exact Nat.le_refl _⟩,⟨by (with_reducible repeat (first|apply Kd.R_alloc|apply Kd.R_drewN|apply Kd.R_drew));exact Kd.R_mono (Kd.R_far (p := ⟨gb227,4,none⟩) (Kd.R_far (p := ⟨gb227,3,none⟩) (Kd.R_far (p := ⟨gb227,2,none⟩) (Kd.R_far (p := ⟨gb227,1,none⟩) (Kd.R_far (p := ⟨gb227,0,none⟩) (Kd.R_types HO213.out BK227.out (by decide)) (fun _ hk => hk.2) (.int .i64 t217)) (fun _ hk => hk.2) (.int .i64 t218)) (fun _ hk => hk.2) (.int .i64 t219)) (fun _ hk => hk.2) (.slice Ao45 t220.length co45)) (fun _ hk => hk.2) (.slice Ao46 t223.length co46)) (fun _ hk => trivial)⟩,⟨by (with_reducible repeat (first|apply Kd.R_alloc|apply Kd.R_drewN|apply Kd.R_drew));exact Kd.R_mono (Kd.R_far (p := ⟨gb227,4,none⟩) (Kd.R_far (p := ⟨gb227,3,none⟩) (Kd.R_far (p := ⟨gb227,2,none⟩) (Kd.R_far (p := ⟨gb227,1,none⟩) (Kd.R_far (p := ⟨gb227,0,none⟩) (Kd.R_types HO198.out BK227.out (by decide)) (fun _ hk => hk.2) (.int .i64 t217)) (fun _ hk => hk.2) (.int .i64 t218)) (fun _ hk => hk.2) (.int .i64 t219)) (fun _ hk => hk.2) (.slice Ao45 t220.length co45)) (fun _ hk => hk.2) (.slice Ao46 t223.length co46)) (fun _ hk => ⟨hk.1.1.2,hk.1.2⟩)⟩,⟨by (with_reducible repeat (first|apply Kd.V_alloc|apply Kd.V_drewN|apply Kd.V_drew));exact Kd.V_mono (Kd.V_far (p := ⟨gb227,4,none⟩) (Kd.V_far (p := ⟨gb227,3,none⟩) (Kd.V_far (p := ⟨gb227,2,none⟩) (Kd.V_far (p := ⟨gb227,1,none⟩) (Kd.V_far (p := ⟨gb227,0,none⟩) (Kd.V_mono HO201.out (fun k_ hk => (⟨hk,hk.2⟩ : _ ∧ k_ ≠ gb227))) (fun _ hk => hk.2) (.int .i64 t217)) (fun _ hk => hk.2) (.int .i64 t218)) (fun _ hk => hk.2) (.int .i64 t219)) (fun _ hk => hk.2) (.slice Ao45 t220.length co45)) (fun _ hk => hk.2) (.slice Ao46 t223.length co46)) (fun _ hk => ⟨hk.1.1.1.1.2,⟨hk.1.1.1.1.1.1.1,⟨hk.1.1.1.1.1.2,⟨hk.1.1.1.2,⟨hk.1.1.2,⟨hk.1.1.1.1.1.1.2.1,⟨hk.1.1.1.1.1.1.2.2,hk.1.2⟩⟩⟩⟩⟩⟩⟩)⟩,⟨by (with_reducible repeat (first|apply Kd.R_alloc|apply Kd.R_drewN|apply Kd.R_drew));exact Kd.R_mono (Kd.R_far (p := ⟨gb227,4,none⟩) (Kd.R_far (p := ⟨gb227,3,none⟩) (Kd.R_far (p := ⟨gb227,2,none⟩) (Kd.R_far (p := ⟨gb227,1,none⟩) (Kd.R_far (p := ⟨gb227,0,none⟩) (Kd.R_types HO207.out BK227.out (by decide)) (fun _ hk => hk.2) (.int .i64 t217)) (fun _ hk => hk.2) (.int .i64 t218)) (fun _ hk => hk.2) (.int .i64 t219)) (fun _ hk => hk.2) (.slice Ao45 t220.length co45)) (fun _ hk => hk.2) (.slice Ao46 t223.length co46)) (fun _ hk => ⟨hk.1.1.2,hk.1.2⟩)⟩,⟨by (with_reducible repeat (first|apply Kd.V_alloc|apply Kd.V_drewN|apply Kd.V_drew));exact Kd.V_mono (Kd.V_far (p := ⟨gb227,4,none⟩) (Kd.V_far (p := ⟨gb227,3,none⟩) (Kd.V_far (p := ⟨gb227,2,none⟩) (Kd.V_far (p := ⟨gb227,1,none⟩) (Kd.V_far (p := ⟨gb227,0,none⟩) (Kd.V_mono HO210.out (fun k_ hk => (⟨hk,hk.2⟩ : _ ∧ k_ ≠ gb227))) (fun _ hk => hk.2) (.int .i64 t217)) (fun _ hk => hk.2) (.int .i64 t218)) (fun _ hk => hk.2) (.int .i64 t219)) (fun _ hk => hk.2) (.slice Ao45 t220.length co45)) (fun _ hk => hk.2) (.slice Ao46 t223.length co46)) (fun _ hk => ⟨hk.1.1.1.1.2,⟨hk.1.1.1.1.1.2.1,⟨hk.1.1.1.1.1.1,⟨hk.1.1.1.2,⟨hk.1.1.2,⟨hk.1.1.1.1.1.2.2.1,⟨hk.1.1.1.1.1.2.2.2,hk.1.2⟩⟩⟩⟩⟩⟩⟩)⟩,⟨by (with_reducible repeat (first|apply Kd.R_alloc|apply Kd.R_drewN|apply Kd.R_drew));exact Kd.R_mono (Kd.R_far (p := ⟨gb227,4,none⟩) (Kd.R_far (p := ⟨gb227,3,none⟩) (Kd.R_far (p := ⟨gb227,2,none⟩) (Kd.R_far (p := ⟨gb227,1,none⟩) (Kd.R_far (p := ⟨gb227,0,none⟩) (Kd.R_types HO222.out BK227.out (by decide)) (fun _ hk => hk.2) (.int .i64 t217)) (fun _ hk => hk.2) (.int .i64 t218)) (fun _ hk => hk.2) (.int .i64 t219)) (fun _ hk => hk.2) (.slice Ao45 t220.length co45)) (fun _ hk => hk.2) (.slice Ao46 t223.length co46)) (fun _ hk => ⟨hk.1.1.2,hk.1.2⟩)⟩,⟨by (with_reducible repeat (first|apply Kd.R_alloc|apply Kd.R_drewN|apply Kd.R_drew));exact Kd.R_mono (Kd.R_far (p := ⟨gb227,4,none⟩) (Kd.R_far (p := ⟨gb227,3,none⟩) (Kd.R_far (p := ⟨gb227,2,none⟩) (Kd.R_far (p := ⟨gb227,1,none⟩) (Kd.R_far (p := ⟨gb227,0,none⟩) (Kd.R_types HO225.out BK227.out (by decide)) (fun _ hk => hk.2) (.int .i64 t217)) (fun _ hk => hk.2) (.int .i64 t218)) (fun _ hk => hk.2) (.int .i64 t219)) (fun _ hk => hk.2) (.slice Ao45 t220.length co45)) (fun _ hk => hk.2) (.slice Ao46 t223.length co46)) (fun _ hk => trivial)⟩,⟨by (with_reducible repeat (first|refine blk_drewN ?_ _|refine blk_drew ?_|refine blk_alloc ?_ _));refine blk_far ?_ NB190_227.out _;(with_reducible repeat (first|refine blk_drewN ?_ _|refine blk_drew ?_|refine blk_alloc ?_ _));refine blk_far ?_ NB190_227.out _;(with_reducible repeat (first|refine blk_drewN ?_ _|refine blk_drew ?_|refine blk_alloc ?_ _));refine blk_far ?_ NB190_227.out _;(with_reducible repeat (first|refine blk_drewN ?_ _|refine blk_drew ?_|refine blk_alloc ?_ _));refine blk_far ?_ NB190_227.out _;(with_reducible repeat (first|refine blk_drewN ?_ _|refine blk_drew ?_|refine blk_alloc ?_ _));refine blk_far ?_ NB190_227.out _;(with_reducible repeat (first|refine blk_drewN ?_ _|refine blk_drew ?_|refine blk_alloc ?_ _));exact BK190.out⟩,⟨by (with_reducible repeat (first|refine blk_drewN ?_ _|refine blk_drew ?_|refine blk_alloc ?_ _));refine blk_far ?_ NB191_227.out _;(with_reducible repeat (first|refine blk_drewN ?_ _|refine blk_drew ?_|refine blk_alloc ?_ _));refine blk_far ?_ NB191_227.out _;(with_reducible repeat (first|refine blk_drewN ?_ _|refine blk_drew ?_|refine blk_alloc ?_ _));refine blk_far ?_ NB191_227.out _;(with_reducible repeat (first|refine blk_drewN ?_ _|refine blk_drew ?_|refine blk_alloc ?_ _));refine blk_far ?_ NB191_227.out _;(with_reducible repeat (first|refine blk_drewN ?_ _|refine blk_drew ?_|refine blk_alloc ?_ _));refine blk_far ?_ NB191_227.out _;(with_reducible repeat (first|refine blk_drewN ?_ _|refine blk_drew ?_|refine blk_alloc ?_ _));exact BK191.out⟩,⟨by (with_reducible repeat (first|refine blk_drewN ?_ _|refine blk_drew ?_|refine blk_alloc ?_ _));refine blk_put (cs := #[.int .i64 t217,.int .i64 t218,.int .i64 t219,.slice Ao45 t220.length co45,.slice none 0 0]) ?_ 4 _ rfl;(with_reducible repeat (first|refine blk_drewN ?_ _|refine blk_drew ?_|refine blk_alloc ?_ _));refine blk_put (cs := #[.int .i64 t217,.int .i64 t218,.int .i64 t219,.slice none 0 0,.slice none 0 0]) ?_ 3 _ rfl;(with_reducible repeat (first|refine blk_drewN ?_ _|refine blk_drew ?_|refine blk_alloc ?_ _));refine blk_put (cs := #[.int .i64 t217,.int .i64 t218,.int .i64 0,.slice none 0 0,.slice none 0 0]) ?_ 2 _ rfl;(with_reducible repeat (first|refine blk_drewN ?_ _|refine blk_drew ?_|refine blk_alloc ?_ _));refine blk_put (cs := #[.int .i64 t217,.int .i64 0,.int .i64 0,.slice none 0 0,.slice none 0 0]) ?_ 1 _ rfl;(with_reducible repeat (first|refine blk_drewN ?_ _|refine blk_drew ?_|refine blk_alloc ?_ _));refine blk_put (cs := #[.int .i64 0,.int .i64 0,.int .i64 0,.slice none 0 0,.slice none 0 0]) ?_ 0 _ rfl;(with_reducible repeat (first|refine blk_drewN ?_ _|refine blk_drew ?_|refine blk_alloc ?_ _));exact BK227.out⟩,⟨by repeat (first|(with_reducible first|exact HB.out|apply below_alloc|apply pw_below_drewN|apply below_drew1|refine below_set ?_ GE190.out|refine below_set ?_ GE191.out|refine below_set ?_ GE227.out)|exact HB.out)⟩⟩
    ·rw [if_neg c47] at H
     have c47b0 : (t214 == 0) = false := beq_eq_false_iff_ne.mpr c47
     have c47b1 : (t214 != 0) = true := bne_iff_ne.mpr c47
     (first | rw [c47b0]|(simp only [i64_w,i32_w];rw [c47b0]) | skip)
     have H' := Aside0.mk H
     clear H
     go_wp2
     go_meet
     case rel => exact ⟨_,(true),(by first | rfl|(simp;done)|(simp [*];done)),H',⟨by first | omega|exact Nat.le_refl _⟩,⟨by (with_reducible repeat (first|apply Kd.R_alloc|apply Kd.R_drewN|apply Kd.R_drew));exact Kd.R_mono (Kd.R_far (p := ⟨gb227,4,none⟩) (Kd.R_far (p := ⟨gb227,3,none⟩) (Kd.R_far (p := ⟨gb227,2,none⟩) (Kd.R_far (p := ⟨gb227,1,none⟩) (Kd.R_far (p := ⟨gb227,0,none⟩) (Kd.R_types HO213.out BK227.out (by decide)) (fun _ hk => hk.2) (.int .i64 t217)) (fun _ hk => hk.2) (.int .i64 t218)) (fun _ hk => hk.2) (.int .i64 t219)) (fun _ hk => hk.2) (.slice Ao45 t220.length co45)) (fun _ hk => hk.2) (.slice Ao46 t223.length co46)) (fun _ hk => trivial)⟩,⟨by (with_reducible repeat (first|apply Kd.R_alloc|apply Kd.R_drewN|apply Kd.R_drew));exact Kd.R_mono (Kd.R_far (p := ⟨gb227,4,none⟩) (Kd.R_far (p := ⟨gb227,3,none⟩) (Kd.R_far (p := ⟨gb227,2,none⟩) (Kd.R_far (p := ⟨gb227,1,none⟩) (Kd.R_far (p := ⟨gb227,0,none⟩) (Kd.R_types HO198.out BK227.out (by decide)) (fun _ hk => hk.2) (.int .i64 t217)) (fun _ hk => hk.2) (.int .i64 t218)) (fun _ hk => hk.2) (.int .i64 t219)) (fun _ hk => hk.2) (.slice Ao45 t220.length co45)) (fun _ hk => hk.2) (.slice Ao46 t223.length co46)) (fun _ hk => ⟨hk.1.1.2,hk.1.2⟩)⟩,⟨by (with_reducible repeat (first|apply Kd.V_alloc|apply Kd.V_drewN|apply Kd.V_drew));exact Kd.V_mono (Kd.V_far (p := ⟨gb227,4,none⟩) (Kd.V_far (p := ⟨gb227,3,none⟩) (Kd.V_far (p := ⟨gb227,2,none⟩) (Kd.V_far (p := ⟨gb227,1,none⟩) (Kd.V_far (p := ⟨gb227,0,none⟩) (Kd.V_mono HO201.out (fun k_ hk => (⟨hk,hk.2⟩ : _ ∧ k_ ≠ gb227))) (fun _ hk => hk.2) (.int .i64 t217)) (fun _ hk => hk.2) (.int .i64 t218)) (fun _ hk => hk.2) (.int .i64 t219)) (fun _ hk => hk.2) (.slice Ao45 t220.length co45)) (fun _ hk => hk.2) (.slice Ao46 t223.length co46)) (fun _ hk => ⟨hk.1.1.1.1.2,⟨hk.1.1.1.1.1.1.1,⟨hk.1.1.1.1.1.2,⟨hk.1.1.1.2,⟨hk.1.1.2,⟨hk.1.1.1.1.1.1.2.1,⟨hk.1.1.1.1.1.1.2.2,hk.1.2⟩⟩⟩⟩⟩⟩⟩)⟩,⟨by (with_reducible repeat (first|apply Kd.R_alloc|apply Kd.R_drewN|apply Kd.R_drew));exact Kd.R_mono (Kd.R_far (p := ⟨gb227,4,none⟩) (Kd.R_far (p := ⟨gb227,3,none⟩) (Kd.R_far (p := ⟨gb227,2,none⟩) (Kd.R_far (p := ⟨gb227,1,none⟩) (Kd.R_far (p := ⟨gb227,0,none⟩) (Kd.R_types HO207.out BK227.out (by decide)) (fun _ hk => hk.2) (.int .i64 t217)) (fun _ hk => hk.2) (.int .i64 t218)) (fun _ hk => hk.2) (.int .i64 t219)) (fun _ hk => hk.2) (.slice Ao45 t220.length co45)) (fun _ hk => hk.2) (.slice Ao46 t223.length co46)) (fun _ hk => ⟨hk.1.1.2,hk.1.2⟩)⟩,⟨by (with_reducible repeat (first|apply Kd.V_alloc|apply Kd.V_drewN|apply Kd.V_drew));exact Kd.V_mono (Kd.V_far (p := ⟨gb227,4,none⟩) (Kd.V_far (p := ⟨gb227,3,none⟩) (Kd.V_far (p := ⟨gb227,2,none⟩) (Kd.V_far (p := ⟨gb227,1,none⟩) (Kd.V_far (p := ⟨gb227,0,none⟩) (Kd.V_mono HO210.out (fun k_ hk => (⟨hk,hk.2⟩ : _ ∧ k_ ≠ gb227))) (fun _ hk => hk.2) (.int .i64 t217)) (fun _ hk => hk.2) (.int .i64 t218)) (fun _ hk => hk.2) (.int .i64 t219)) (fun _ hk => hk.2) (.slice Ao45 t220.length co45)) (fun _ hk => hk.2) (.slice Ao46 t223.length co46)) (fun _ hk => ⟨hk.1.1.1.1.2,⟨hk.1.1.1.1.1.2.1,⟨hk.1.1.1.1.1.1,⟨hk.1.1.1.2,⟨hk.1.1.2,⟨hk.1.1.1.1.1.2.2.1,⟨hk.1.1.1.1.1.2.2.2,hk.1.2⟩⟩⟩⟩⟩⟩⟩)⟩,⟨by (with_reducible repeat (first|apply Kd.R_alloc|apply Kd.R_drewN|apply Kd.R_drew));exact Kd.R_mono (Kd.R_far (p := ⟨gb227,4,none⟩) (Kd.R_far (p := ⟨gb227,3,none⟩) (Kd.R_far (p := ⟨gb227,2,none⟩) (Kd.R_far (p := ⟨gb227,1,none⟩) (Kd.R_far (p := ⟨gb227,0,none⟩) (Kd.R_types HO222.out BK227.out (by decide)) (fun _ hk => hk.2) (.int .i64 t217)) (fun _ hk => hk.2) (.int .i64 t218)) (fun _ hk => hk.2) (.int .i64 t219)) (fun _ hk => hk.2) (.slice Ao45 t220.length co45)) (fun _ hk => hk.2) (.slice Ao46 t223.length co46)) (fun _ hk => ⟨hk.1.1.2,hk.1.2⟩)⟩,⟨by (with_reducible repeat (first|apply Kd.R_alloc|apply Kd.R_drewN|apply Kd.R_drew));exact Kd.R_mono (Kd.R_far (p := ⟨gb227,4,none⟩) (Kd.R_far (p := ⟨gb227,3,none⟩) (Kd.R_far (p := ⟨gb227,2,none⟩) (Kd.R_far (p := ⟨gb227,1,none⟩) (Kd.R_far (p := ⟨gb227,0,none⟩) (Kd.R_types HO225.out BK227.out (by decide)) (fun _ hk => hk.2) (.int .i64 t217)) (fun _ hk => hk.2) (.int .i64 t218)) (fun _ hk => hk.2) (.int .i64 t219)) (fun _ hk => hk.2) (.slice Ao45 t220.length co45)) (fun _ hk => hk.2) (.slice Ao46 t223.length co46)) (fun _ hk => trivial)⟩,⟨by (with_reducible repeat (first|refine blk_drewN ?_ _|refine blk_drew ?_|refine blk_alloc ?_ _));refine blk_far ?_ NB190_227.out _;(with_reducible repeat (first|refine blk_drewN ?_ _|refine blk_drew ?_|refine blk_alloc ?_ _));refine blk_far ?_ NB190_227.out _;(with_reducible repeat (first|refine blk_drewN ?_ _|refine blk_drew ?_|refine blk_alloc ?_ _));refine blk_far ?_ NB190_227.out _;(with_reducible repeat (first|refine blk_drewN ?_ _|refine blk_drew ?_|refine blk_alloc ?_ _));refine blk_far ?_ NB190_227.out _;(with_reducible repeat (first|refine blk_drewN ?_ _|refine blk_drew ?_|refine blk_alloc ?_ _));refine blk_far ?_ NB190_227.out _;(with_reducible repeat (first|refine blk_drewN ?_ _|refine blk_drew ?_|refine blk_alloc ?_ _));exact BK190.out⟩,⟨by (with_reducible repeat (first|refine blk_drewN ?_ _|refine blk_drew ?_|refine blk_alloc ?_ _));refine blk_far ?_ NB191_227.out _;(with_reducible repeat (first|refine blk_drewN ?_ _|refine blk_drew ?_|refine blk_alloc ?_ _));refine blk_far ?_ NB191_227.out _;(with_reducible repeat (first|refine blk_drewN ?_ _|refine blk_drew ?_|refine blk_alloc ?_ _));refine blk_far ?_ NB191_227.out _;(with_reducible repeat (first|refine blk_drewN ?_ _|refine blk_drew ?_|refine blk_alloc ?_ _));refine blk_far ?_ NB191_227.out _;(with_reducible repeat (first|refine blk_drewN ?_ _|refine blk_drew ?_|refine blk_alloc ?_ _));refine blk_far ?_ NB191_227.out _;(with_reducible repeat (first|refine blk_drewN ?_ _|refine blk_drew ?_|refine blk_alloc ?_ _));exact BK191.out⟩,⟨by (with_reducible repeat (first|refine blk_drewN ?_ _|refine blk_drew ?_|refine blk_alloc ?_ _));refine blk_put (cs := #[.int .i64 t217,.int .i64 t218,.int .i64 t219,.slice Ao45 t220.length co45,.slice none 0 0]) ?_ 4 _ rfl;(with_reducible repeat (first|refine blk_drewN ?_ _|refine blk_drew ?_|refine blk_alloc ?_ _));refine blk_put (cs := #[.int .i64 t217,.int .i64 t218,.int .i64 t219,.slice none 0 0,.slice none 0 0]) ?_ 3 _ rfl;(with_reducible repeat (first|refine blk_drewN ?_ _|refine blk_drew ?_|refine blk_alloc ?_ _));refine blk_put (cs := #[.int .i64 t217,.int .i64 t218,.int .i64 0,.slice none 0 0,.slice none 0 0]) ?_ 2 _ rfl;(with_reducible repeat (first|refine blk_drewN ?_ _|refine blk_drew ?_|refine blk_alloc ?_ _));refine blk_put (cs := #[.int .i64 t217,.int .i64 0,.int .i64 0,.slice none 0 0,.slice none 0 0]) ?_ 1 _ rfl;(with_reducible repeat (first|refine blk_drewN ?_ _|refine blk_drew ?_|refine blk_alloc ?_ _));refine blk_put (cs := #[.int .i64 0,.int .i64 0,.int .i64 0,.slice none 0 0,.slice none 0 0]) ?_ 0 _ rfl;(with_reducible repeat (first|refine blk_drewN ?_ _|refine blk_drew ?_|refine blk_alloc ?_ _));exact BK227.out⟩,⟨by repeat (first|(with_reducible first|exact HB.out|apply below_alloc|apply pw_below_drewN|apply below_drew1|refine below_set ?_ GE190.out|refine below_set ?_ GE191.out|refine below_set ?_ GE227.out)|exact HB.out)⟩⟩
   case rest =>
    clear HC13
    try clear c1
    try clear c2
    try clear p2
    try clear c3
    try clear c4
    try clear c5
    try clear c6
    try clear c11
    try clear c23
    try clear c24
    try clear c25
    try clear c26
    try clear c28
    try clear c34
    try clear c42
    try clear c43
    try clear c47
    try clear c47b0
    try clear c47b1
    try clear c48
    try clear c48b0
    try clear c48b1
    try clear c50
    try clear c52
    try clear c53
    try clear c55
    try clear c60
    try clear c61
    try clear c63
    try clear hcz35_0
    try clear hcz35_1
    try clear hcz35_2
    try clear hcz35_3
    try clear hcz35_4
    try clear hcz37_0
    try clear hcz37_1
    try clear hcz37_2
    try clear hcz37_3
    try clear hcz37_4
    try clear hcz44_0
    try clear hcz44_1
    try clear hcz44_2
    try clear hcz44_3
    try clear hcz44_4
    try clear hcz54_0
    try clear hcz54_1
    try clear hcz54_2
    try clear hcz54_3
    try clear hcz54_4
    try clear hcz56_0
    try clear hcz56_1
    try clear hcz56_2
    try clear hcz56_3
    try clear hcz56_4
    try clear hcz58_0
    try clear hcz58_1
    try clear hcz58_2
    try clear hcz58_3
    try clear hcz58_4
    try clear hcz62_0
    try clear hcz62_1
    try clear hcz62_2
    try clear hcz62_3
    try clear hcz62_4
    try clear hcz64_0
    try clear hcz64_1
    try clear hcz64_2
    try clear hcz64_3
    try clear hcz64_4
    try clear hfz35_0
    try clear hfz35_1
    try clear hfz35_2
    try clear hfz35_3
    try clear hfz35_4
    try clear hfz37_0
    try clear hfz37_1
    try clear hfz37_2
    try clear hfz37_3
    try clear hfz37_4
    try clear hfz44_0
    try clear hfz44_1
    try clear hfz44_2
    try clear hfz44_3
    try clear hfz44_4
    try clear hfz54_0
    try clear hfz54_1
    try clear hfz54_2
    try clear hfz54_3
    try clear hfz54_4
    try clear hfz56_0
    try clear hfz56_1
    try clear hfz56_2
    try clear hfz56_3
    try clear hfz56_4
    try clear hfz58_0
    try clear hfz58_1
    try clear hfz58_2
    try clear hfz58_3
    try clear hfz58_4
    try clear hfz62_0
    try clear hfz62_1
    try clear hfz62_2
    try clear hfz62_3
    try clear hfz62_4
    try clear hfz64_0
    try clear hfz64_1
    try clear hfz64_2
    try clear hfz64_3
    try clear hfz64_4
    obtain ⟨kq,x66_12,rfl,HA,HJ12,HO_10,HO_191003,HO_191004,HO_192003,HO_192004,HO_228003,HO_228004,BK190,BK191,BK227,HB⟩ := hcut
    cases kq with
    | zero => exact absurd HA.out (by simp [incipitlaw19_EditBytes.j0])
    | succ kj12 =>
     have H := HA.out
     clear HA
     simp only [incipitlaw19_EditBytes.j0] at H
     by_cases c66 : x66_12 = true
     ·subst c66
      have H1 : (some false) = some r := by rw [if_pos rfl] at H;exact H
      clear H
      have H := H1
      clear H1
      obtain rfl := Option.some.inj H
      exact absurd HRT.out (by decide)
     ·replace c66 := Bool.eq_false_iff.mpr c66
      subst c66
      have H1 : ((edit_Encode.f kj12 t202 t203 t204 t205 t208).bind fun bt230 => (if bt230.2 = 0 then ((incipitref12_EqEdit.f kj12 t193 t194 t195 t196 t199 t202 t203 t204 t205 t208).bind fun t234 => (incipitlaw19_EditBytes.j1 kj12 a2 a3 t211 (((strOfNums t211).toList == (strOfNums bt230.1).toList) != t234))) else (incipitlaw19_EditBytes.j1 kj12 a2 a3 t211 false))) = some r := by rw [if_neg (show ¬ (false = true) by decide)] at H;exact H
      clear H
      have H := H1
      clear H1
      replace H := Option.bind_eq_some_iff.mp H
      obtain ⟨⟨t230,t233⟩,A670,H⟩ := H
      replace H : (if t233 = 0 then ((incipitref12_EqEdit.f kj12 t193 t194 t195 t196 t199 t202 t203 t204 t205 t208).bind fun t234 => (incipitlaw19_EditBytes.j1 kj12 a2 a3 t211 (((strOfNums t211).toList == (strOfNums t230).toList) != t234))) else (incipitlaw19_EditBytes.j1 kj12 a2 a3 t211 false)) = some r := H
      have A67 := Aside0.mk A670
      clear A670
      have HC68 := Aside0.mk H
      clear H
      have hnb69 := NB191_190.out
      have hnc69 := NB190_191.out
      have hnb70 := NB191_227.out
      have hnc70 := NB227_191.out
      have hcz71_0 : wc.cell? ⟨gb191,0,none⟩ = some (.int .i64 t202) := (blk_cell BK191.out 0).trans rfl
      have hcz71_1 : wc.cell? ⟨gb191,1,none⟩ = some (.int .i64 t203) := (blk_cell BK191.out 1).trans rfl
      have hcz71_2 : wc.cell? ⟨gb191,2,none⟩ = some (.int .i64 t204) := (blk_cell BK191.out 2).trans rfl
      have hcz71_3 : wc.cell? ⟨gb191,3,none⟩ = some (.slice Ao30 t205.length co30) := (blk_cell BK191.out 3).trans rfl
      have hcz71_4 : wc.cell? ⟨gb191,4,none⟩ = some (.slice Ao32 t208.length co32) := (blk_cell BK191.out 4).trans rfl
      have hfz71_0 := blk_frozen BK191.out 0
      have hfz71_1 := blk_frozen BK191.out 1
      have hfz71_2 := blk_frozen BK191.out 2
      have hfz71_3 := blk_frozen BK191.out 3
      have hfz71_4 := blk_frozen BK191.out 4
      go_upto_region 12 with (first|((with_reducible refine gate_callee (f := 25) rfl ?_);refine goesL_ (some 69) rfl rfl Try.func25 (by kernel_rfl) rfl #[.agg #[.int .i64 t202,.int .i64 t203,.int .i64 t204,.slice Ao30 t205.length co30,.slice Ao32 t208.length co32]] rfl (by (try simp only [List.map_toArray,List.map_cons,List.map_nil]);first | done | rfl|(simp only [List.length_drop,List.length_take];rfl)) ?_;(with_reducible refine (edit_Encode.calls kj12 t202 t203 t204 _ _ t205 _ _ t208 t230 t233 _ ?side1 ?side2 ?side3 ?side4 A67.out).mono ?_);(case side1 => repeat (first|exact (Kd.R_reads' HO_192003.out).2.2|(with_reducible refine Kd.C_alloc ?_ _)|(with_reducible refine Kd.C_drewN ?_ _)|(with_reducible refine Kd.C_drew ?_)));(case side2 => exact (Kd.R_reads' HO_192003.out).2.1);(case side3 => repeat (first|exact (Kd.V_reads' HO_192004.out).2.2|(with_reducible refine Kd.C_alloc ?_ _)|(with_reducible refine Kd.C_drewN ?_ _)|(with_reducible refine Kd.C_drew ?_)));(case side4 => exact (Kd.V_reads' HO_192004.out).2.1);rintro e w72 ⟨v231,rfl,ho0,hb⟩;refine ⟨_,rfl,?_⟩;have n0_ := Aside0.mk (Kd.R_elder' (by (with_reducible repeat (first|apply Kd.R_alloc|apply Kd.R_drewN|apply Kd.R_drew));exact HO_10.out) (Kd.R_base ho0) hb);have n1_ := Aside0.mk (Kd.R_below (by (with_reducible repeat (first|apply Kd.R_alloc|apply Kd.R_drewN|apply Kd.R_drew));exact HO_191003.out) hb);have n2_ := Aside0.mk (Kd.V_elder' (by (with_reducible repeat (first|apply Kd.V_alloc|apply Kd.V_drewN|apply Kd.V_drew));exact HO_191004.out) (Kd.R_base ho0) hb);have n3_ := Aside0.mk (Kd.R_below (by (with_reducible repeat (first|apply Kd.R_alloc|apply Kd.R_drewN|apply Kd.R_drew));exact HO_192003.out) hb);have n4_ := Aside0.mk (Kd.V_elder' (by (with_reducible repeat (first|apply Kd.V_alloc|apply Kd.V_drewN|apply Kd.V_drew));exact HO_192004.out) (Kd.R_base ho0) hb);have n5_ := Aside0.mk (Kd.R_below (by (with_reducible repeat (first|apply Kd.R_alloc|apply Kd.R_drewN|apply Kd.R_drew));exact HO_228003.out) hb);have n6_ := Aside0.mk (Kd.R_below (by (with_reducible repeat (first|apply Kd.R_alloc|apply Kd.R_drewN|apply Kd.R_drew));exact HO_228004.out) hb);have n7_ := Aside0.mk (Kd.R_lower (Kd.R_new' ho0 (Kd.R_lt (by (with_reducible repeat (first|apply Kd.R_alloc|apply Kd.R_drewN|apply Kd.R_drew));exact HO_10.out))) (below_size (by repeat (first|(with_reducible first|exact HB.out|apply below_alloc|apply pw_below_drewN|apply below_drew1|refine below_set ?_ GE190.out|refine below_set ?_ GE191.out|refine below_set ?_ GE227.out)|exact HB.out))));have n8_ := Aside0.mk (blk_below (g := gb190) (o := .cells #[.int .i64 t193,.int .i64 t194,.int .i64 t195,.slice Ao23 t196.length co23,.slice Ao25 t199.length co25] 43 (0,0)) (by (with_reducible repeat (first|refine blk_drewN ?_ _|refine blk_drew ?_|refine blk_alloc ?_ _));exact BK190.out) hb);have n9_ := Aside0.mk (blk_below (g := gb191) (o := .cells #[.int .i64 t202,.int .i64 t203,.int .i64 t204,.slice Ao30 t205.length co30,.slice Ao32 t208.length co32] 43 (0,0)) (by (with_reducible repeat (first|refine blk_drewN ?_ _|refine blk_drew ?_|refine blk_alloc ?_ _));exact BK191.out) hb);have n10_ := Aside0.mk (blk_below (g := gb227) (o := .cells #[.int .i64 t217,.int .i64 t218,.int .i64 t219,.slice Ao45 t220.length co45,.slice Ao46 t223.length co46] 43 (0,0)) (by (with_reducible repeat (first|refine blk_drewN ?_ _|refine blk_drew ?_|refine blk_alloc ?_ _));exact BK227.out) hb);have n11_ := Aside0.mk (below_step (by repeat (first|(with_reducible first|exact HB.out|apply below_alloc|apply pw_below_drewN|apply below_drew1|refine below_set ?_ GE190.out|refine below_set ?_ GE191.out|refine below_set ?_ GE227.out)|exact HB.out)) hb);clear HO_10;clear HO_191003;clear HO_191004;clear HO_192003;clear HO_192004;clear HO_228003;clear HO_228004;clear BK190;clear BK191;clear BK227;clear HB;have HO_10 := n0_;have HO_191003 := n1_;have HO_191004 := n2_;have HO_192003 := n3_;have HO_192004 := n4_;have HO_228003 := n5_;have HO_228004 := n6_;have HO232 := n7_;have BK190 := n8_;have BK191 := n9_;have BK227 := n10_;have HB := n11_;clear n0_ n1_ n2_ n3_ n4_ n5_ n6_ n7_ n8_ n9_ n10_ n11_;(try clear hb);(try clear hb2);(try clear hk);(try clear hi);(try clear ho0)))
      (try simp only [Act.put,List.setIfInBounds_toArray,List.set_cons_zero,List.set_cons_succ])
      go_cut [84] (fun v84 wc => ∃ (kq : Nat) (x84_67 : Bool),v84 = .bool x84_67 ∧ Aside0 (incipitlaw19_EditBytes.j1 kq a2 a3 t211 x84_67 = some r) ∧ Aside0 (kq ≤ kj12) ∧ Aside0 (Kd.R (Kd.int .u8) 5 wc w.heap.size (fun _ => True) (.slice Ao39 t211.length co39) t211) ∧ Aside0 (Kd.R k55 55 wc w.heap.size (fun k_ => some k_ ≠ ((.slice Ao30 t205.length co30) : Value).ownBlock ∧ some k_ ≠ ((.slice Ao45 t220.length co45) : Value).ownBlock) (.slice Ao23 t196.length co23) t196) ∧ Aside0 (Kd.V (Kd.int .i64) 2 wc w.heap.size (fun k_ => some k_ ≠ ((.slice Ao39 t211.length co39) : Value).ownBlock ∧ some k_ ≠ ((.slice Ao23 t196.length co23) : Value).ownBlock ∧ some k_ ≠ ((.slice Ao30 t205.length co30) : Value).ownBlock ∧ some k_ ≠ ((.slice Ao45 t220.length co45) : Value).ownBlock ∧ some k_ ≠ ((.slice Ao46 t223.length co46) : Value).ownBlock ∧ k_ ≠ gb190 ∧ k_ ≠ gb191 ∧ k_ ≠ gb227) (.slice Ao25 t199.length co25) t199) ∧ Aside0 (Kd.R k55 55 wc w.heap.size (fun k_ => some k_ ≠ ((.slice Ao23 t196.length co23) : Value).ownBlock ∧ some k_ ≠ ((.slice Ao45 t220.length co45) : Value).ownBlock) (.slice Ao30 t205.length co30) t205) ∧ Aside0 (Kd.V (Kd.int .i64) 2 wc w.heap.size (fun k_ => some k_ ≠ ((.slice Ao39 t211.length co39) : Value).ownBlock ∧ some k_ ≠ ((.slice Ao23 t196.length co23) : Value).ownBlock ∧ some k_ ≠ ((.slice Ao30 t205.length co30) : Value).ownBlock ∧ some k_ ≠ ((.slice Ao45 t220.length co45) : Value).ownBlock ∧ some k_ ≠ ((.slice Ao46 t223.length co46) : Value).ownBlock ∧ k_ ≠ gb190 ∧ k_ ≠ gb191 ∧ k_ ≠ gb227) (.slice Ao32 t208.length co32) t208) ∧ Aside0 (Kd.R k55 55 wc w.heap.size (fun k_ => some k_ ≠ ((.slice Ao23 t196.length co23) : Value).ownBlock ∧ some k_ ≠ ((.slice Ao30 t205.length co30) : Value).ownBlock) (.slice Ao45 t220.length co45) t220) ∧ Aside0 (Kd.R (Kd.int .i64) 2 wc w.heap.size (fun _ => True) (.slice Ao46 t223.length co46) t223) ∧ Aside0 (wc.heap[gb190]? = some (.cells #[.int .i64 t193,.int .i64 t194,.int .i64 t195,(.slice Ao23 t196.length co23),(.slice Ao25 t199.length co25)] 43 (0,0))) ∧ Aside0 (wc.heap[gb191]? = some (.cells #[.int .i64 t202,.int .i64 t203,.int .i64 t204,(.slice Ao30 t205.length co30),(.slice Ao32 t208.length co32)] 43 (0,0))) ∧ Aside0 (wc.heap[gb227]? = some (.cells #[.int .i64 t217,.int .i64 t218,.int .i64 t219,(.slice Ao45 t220.length co45),(.slice Ao46 t223.length co46)] 43 (0,0))) ∧ Aside0 (Below w.heap.size w wc))
      case first =>
       have H := HC68.out
       clear HC68
       by_cases c73 : t233 = 0
       ·rw [if_pos c73] at H
        have c73b0 : (t233 == 0) = true := beq_iff_eq.mpr c73
        have c73b1 : (t233 != 0) = false := bne_eq_false_iff_eq.mpr c73
        clear c73
        (first | rw [c73b0]|(simp only [i64_w,i32_w];rw [c73b0]) | skip)
        replace H := Option.bind_eq_some_iff.mp H
        obtain ⟨t234,A740,H⟩ := H
        replace H : (incipitlaw19_EditBytes.j1 kj12 a2 a3 t211 (((strOfNums t211).toList == (strOfNums t230).toList) != t234)) = some r := H
        have A74 := Aside0.mk A740
        clear A740
        have H' := Aside0.mk H
        clear H
        try go_wp2
        have n0_ := Aside0.mk (Kd.R_drew HO_10.out)
        have n1_ := Aside0.mk (Kd.R_drew HO_191003.out)
        have n2_ := Aside0.mk (Kd.V_drew HO_191004.out)
        have n3_ := Aside0.mk (Kd.R_drew HO_192003.out)
        have n4_ := Aside0.mk (Kd.V_drew HO_192004.out)
        have n5_ := Aside0.mk (Kd.R_drew HO_228003.out)
        have n6_ := Aside0.mk (Kd.R_drew HO_228004.out)
        have n7_ := Aside0.mk (Kd.R_drew HO232.out)
        have n8_ := Aside0.mk (blk_drew BK190.out)
        have n9_ := Aside0.mk (blk_drew BK191.out)
        have n10_ := Aside0.mk (blk_drew BK227.out)
        have n11_ := Aside0.mk (below_drew1 HB.out)
        clear HO_10
        clear HO_191003
        clear HO_191004
        clear HO_192003
        clear HO_192004
        clear HO_228003
        clear HO_228004
        clear HO232
        clear BK190
        clear BK191
        clear BK227
        clear HB
        have HO_10 := n0_
        have HO_191003 := n1_
        have HO_191004 := n2_
        have HO_192003 := n3_
        have HO_192004 := n4_
        have HO_228003 := n5_
        have HO_228004 := n6_
        have HO232 := n7_
        have BK190 := n8_
        have BK191 := n9_
        have BK227 := n10_
        have HB := n11_
        clear n0_ n1_ n2_ n3_ n4_ n5_ n6_ n7_ n8_ n9_ n10_ n11_
        refine start_ (n := 13) (S := fun w' => True) (ds := []) #[false,false,false,false,false,false,false,false,false,false,false,false,false] (by kernel_rfl) rfl rfl trivial (fun hHeld => ?_);refine with_tabW incipitlaw19_EditBytes.tab12 incipitlaw19_EditBytes.bits12 (fun HT_ HW_ => ?_)
        generalize w72.drew = w75 at HO_10 HO_191003 HO_191004 HO_192003 HO_192004 HO_228003 HO_228004 HO232 BK190 BK191 BK227 HB hHeld ⊢
        refine pure_ (i := 0) (N := some 72) (v := ?_) (a' := ?_) #[true,false,false,false,false,false,false,false,false,false,false,false,false] rfl rfl (any_of HT_.out (by kernel_rfl)) (fun _ _ _ h => h) (Or.inl ⟨by rfl,?_⟩) ?_ ?_
        rotate_left
        ·intro w'
         go_simp
         with_reducible rfl
        rotate_left
        ·simp only [Act.put,List.setIfInBounds_toArray,List.set_cons_zero,List.set_cons_succ,i64_w,i32_w]
         rfl
        refine inv_at [1,2,3,4,5,6,7,8,9,10,11,12] (fun a0_ b a w' => a = putSel a0_ b [(1,73,.bool (t233 == 0)),(2,74,.bool (t233 == 0)),(3,75,.slice Ao39 t211.length co39),(4,76,.string (strOfNums t211)),(5,77,v231),(6,78,.string (strOfNums t230)),(7,79,.bool ((strOfNums t211).toList == (strOfNums t230).toList)),(8,80,.agg #[.int .i64 t193,.int .i64 t194,.int .i64 t195,.slice Ao23 t196.length co23,.slice Ao25 t199.length co25]),(9,81,.agg #[.int .i64 t202,.int .i64 t203,.int .i64 t204,.slice Ao30 t205.length co30,.slice Ao32 t208.length co32]),(10,82,.bool t234),(11,83,.bool (((strOfNums t211).toList == (strOfNums t230).toList) != t234)),(12,84,.bool (((strOfNums t211).toList == (strOfNums t230).toList) != t234))] ∧ (Kd.R (Kd.int .u8) 5 w' w.heap.size (fun k_ => some k_ ≠ (.slice Ao39 t211.length co39 : Value).ownBlock) v231 t230) ∧ (Kd.R (Kd.int .u8) 5 w' w.heap.size (fun k_ => some k_ ≠ (v231 : Value).ownBlock) (.slice Ao39 t211.length co39) t211) ∧ (Kd.R k55 55 w' w.heap.size (fun k_ => some k_ ≠ (.slice Ao30 t205.length co30 : Value).ownBlock ∧ some k_ ≠ (.slice Ao45 t220.length co45 : Value).ownBlock) (.slice Ao23 t196.length co23) t196) ∧ (Kd.V (Kd.int .i64) 2 w' w.heap.size (fun k_ => some k_ ≠ (v231 : Value).ownBlock ∧ some k_ ≠ (.slice Ao39 t211.length co39 : Value).ownBlock ∧ some k_ ≠ (.slice Ao23 t196.length co23 : Value).ownBlock ∧ some k_ ≠ (.slice Ao30 t205.length co30 : Value).ownBlock ∧ some k_ ≠ (.slice Ao45 t220.length co45 : Value).ownBlock ∧ some k_ ≠ (.slice Ao46 t223.length co46 : Value).ownBlock ∧ k_ ≠ gb190 ∧ k_ ≠ gb191 ∧ k_ ≠ gb227) (.slice Ao25 t199.length co25) t199) ∧ (Kd.R k55 55 w' w.heap.size (fun k_ => some k_ ≠ (.slice Ao23 t196.length co23 : Value).ownBlock ∧ some k_ ≠ (.slice Ao45 t220.length co45 : Value).ownBlock) (.slice Ao30 t205.length co30) t205) ∧ (Kd.V (Kd.int .i64) 2 w' w.heap.size (fun k_ => some k_ ≠ (v231 : Value).ownBlock ∧ some k_ ≠ (.slice Ao39 t211.length co39 : Value).ownBlock ∧ some k_ ≠ (.slice Ao23 t196.length co23 : Value).ownBlock ∧ some k_ ≠ (.slice Ao30 t205.length co30 : Value).ownBlock ∧ some k_ ≠ (.slice Ao45 t220.length co45 : Value).ownBlock ∧ some k_ ≠ (.slice Ao46 t223.length co46 : Value).ownBlock ∧ k_ ≠ gb190 ∧ k_ ≠ gb191 ∧ k_ ≠ gb227) (.slice Ao32 t208.length co32) t208) ∧ (Kd.R k55 55 w' w.heap.size (fun k_ => some k_ ≠ (.slice Ao23 t196.length co23 : Value).ownBlock ∧ some k_ ≠ (.slice Ao30 t205.length co30 : Value).ownBlock) (.slice Ao45 t220.length co45) t220) ∧ (Kd.R (Kd.int .i64) 2 w' w.heap.size (fun _ => True) (.slice Ao46 t223.length co46) t223) ∧ (w'.heap[gb190]? = some (.cells #[.int .i64 t193,.int .i64 t194,.int .i64 t195,.slice Ao23 t196.length co23,.slice Ao25 t199.length co25] 43 (0,0))) ∧ (w'.heap[gb191]? = some (.cells #[.int .i64 t202,.int .i64 t203,.int .i64 t204,.slice Ao30 t205.length co30,.slice Ao32 t208.length co32] 43 (0,0))) ∧ (w'.heap[gb227]? = some (.cells #[.int .i64 t217,.int .i64 t218,.int .i64 t219,.slice Ao45 t220.length co45,.slice Ao46 t223.length co46] 43 (0,0))) ∧ (Below w.heap.size w w')) HT_.out HW_.out (by kernel_rfl) (by kernel_rfl) ?_ ?_ ?_
        ·exact ⟨by simp only [putSel,Bool.false_eq_true,if_false],Kd.R_mono HO232.out (fun _ hk => hk.2),Kd.R_mono HO_10.out (fun _ hk => hk.2),HO_191003.out,Kd.V_mono HO_191004.out (fun _ hk => ⟨hk.2,⟨hk.1.1,⟨hk.1.2.1,⟨hk.1.2.2.1,⟨hk.1.2.2.2.1,⟨hk.1.2.2.2.2.1,⟨hk.1.2.2.2.2.2.1,⟨hk.1.2.2.2.2.2.2.1,hk.1.2.2.2.2.2.2.2⟩⟩⟩⟩⟩⟩⟩⟩),HO_192003.out,Kd.V_mono HO_192004.out (fun _ hk => ⟨hk.2,⟨hk.1.1,⟨hk.1.2.1,⟨hk.1.2.2.1,⟨hk.1.2.2.2.1,⟨hk.1.2.2.2.2.1,⟨hk.1.2.2.2.2.2.1,⟨hk.1.2.2.2.2.2.2.1,hk.1.2.2.2.2.2.2.2⟩⟩⟩⟩⟩⟩⟩⟩),HO_228003.out,HO_228004.out,BK190.out,BK191.out,BK227.out,HB.out⟩
        ·skip
         clear BK190 BK191 BK227 HB HO232 HO_10 HO_191003 HO_191004 HO_192003 HO_192004 HO_228003 HO_228004
         refine steps_cons ?_ ?_
         ·rintro b a w' ⟨ha,Q_HO232,Q_HO_10,Q_HO_191003,Q_HO_191004,Q_HO_192003,Q_HO_192004,Q_HO_228003,Q_HO_228004,Q_BK190,Q_BK191,Q_BK227,Q_HB⟩ hb_ hon hoff
          refine ⟨_,rfl,fun K hK => ?_⟩
          have e72 : a.tmps[72]? = some (.int .i64 t233) := by rw [ha];exact (putSel_off rfl).trans rfl
          replace ha := Aside0.mk ha
          have HO232 := Aside0.mk Q_HO232
          have HO_10 := Aside0.mk Q_HO_10
          have HO_191003 := Aside0.mk Q_HO_191003
          have HO_191004 := Aside0.mk Q_HO_191004
          have HO_192003 := Aside0.mk Q_HO_192003
          have HO_192004 := Aside0.mk Q_HO_192004
          have HO_228003 := Aside0.mk Q_HO_228003
          have HO_228004 := Aside0.mk Q_HO_228004
          have BK190 := Aside0.mk Q_BK190
          have BK191 := Aside0.mk Q_BK191
          have BK227 := Aside0.mk Q_BK227
          have HB := Aside0.mk Q_HB
          refine value_ (w1 := w') (v := .bool (t233 == 0)) (by rfl) rfl ?_ ?_
          ·go_simp
           (try simp only [i64_w])
           try rfl
          refine hK.out _ _ ⟨(by rw [ha.out];exact putSel_upk 0 hb_ rfl rfl rfl),Q_HO232,Q_HO_10,Q_HO_191003,Q_HO_191004,Q_HO_192003,Q_HO_192004,Q_HO_228003,Q_HO_228004,Q_BK190,Q_BK191,Q_BK227,Q_HB⟩
         refine steps_cons ?_ ?_
         ·rintro b a w' ⟨ha,Q_HO232,Q_HO_10,Q_HO_191003,Q_HO_191004,Q_HO_192003,Q_HO_192004,Q_HO_228003,Q_HO_228004,Q_BK190,Q_BK191,Q_BK227,Q_HB⟩ hb_ hon hoff
          refine ⟨_,rfl,fun K hK => ?_⟩
          have e73 : a.tmps[73]? = some (.bool (t233 == 0)) := by rw [ha];exact putSel_on (e := (1,73,.bool (t233 == 0))) 0 rfl rfl (hon 1 (by kernel_rfl)) rfl
          replace ha := Aside0.mk ha
          have HO232 := Aside0.mk Q_HO232
          have HO_10 := Aside0.mk Q_HO_10
          have HO_191003 := Aside0.mk Q_HO_191003
          have HO_191004 := Aside0.mk Q_HO_191004
          have HO_192003 := Aside0.mk Q_HO_192003
          have HO_192004 := Aside0.mk Q_HO_192004
          have HO_228003 := Aside0.mk Q_HO_228003
          have HO_228004 := Aside0.mk Q_HO_228004
          have BK190 := Aside0.mk Q_BK190
          have BK191 := Aside0.mk Q_BK191
          have BK227 := Aside0.mk Q_BK227
          have HB := Aside0.mk Q_HB
          refine value_ (w1 := w') (v := .bool (t233 == 0)) (by rfl) rfl ?_ ?_
          ·go_simp
           (try simp only [i64_w])
           try rfl
          refine hK.out _ _ ⟨(by rw [ha.out];exact putSel_upk 1 hb_ rfl rfl rfl),Q_HO232,Q_HO_10,Q_HO_191003,Q_HO_191004,Q_HO_192003,Q_HO_192004,Q_HO_228003,Q_HO_228004,Q_BK190,Q_BK191,Q_BK227,Q_HB⟩
         refine steps_cons ?_ ?_
         ·rintro b a w' ⟨ha,Q_HO232,Q_HO_10,Q_HO_191003,Q_HO_191004,Q_HO_192003,Q_HO_192004,Q_HO_228003,Q_HO_228004,Q_BK190,Q_BK191,Q_BK227,Q_HB⟩ hb_ hon hoff
          refine ⟨_,rfl,fun K hK => ?_⟩
          have e10 : a.tmps[10]? = some (.slice Ao39 t211.length co39) := by rw [ha];exact (putSel_off rfl).trans rfl
          have e74 : a.tmps[74]? = some (.bool (t233 == 0)) := by rw [ha];exact putSel_on (e := (2,74,.bool (t233 == 0))) 1 rfl rfl (hon 2 (by kernel_rfl)) rfl
          replace ha := Aside0.mk ha
          have HO232 := Aside0.mk Q_HO232
          have HO_10 := Aside0.mk Q_HO_10
          have HO_191003 := Aside0.mk Q_HO_191003
          have HO_191004 := Aside0.mk Q_HO_191004
          have HO_192003 := Aside0.mk Q_HO_192003
          have HO_192004 := Aside0.mk Q_HO_192004
          have HO_228003 := Aside0.mk Q_HO_228003
          have HO_228004 := Aside0.mk Q_HO_228004
          have BK190 := Aside0.mk Q_BK190
          have BK191 := Aside0.mk Q_BK191
          have BK227 := Aside0.mk Q_BK227
          have HB := Aside0.mk Q_HB
          refine value_ (w1 := w') (v := .slice Ao39 t211.length co39) (wanted_on rfl rfl rfl (e74.trans (by first | rfl|(simp [*];done)))) rfl ?_ ?_
          ·go_simp
           (try simp only [i64_w])
           try rfl
          refine hK.out _ _ ⟨(by rw [ha.out];exact putSel_upk 2 hb_ rfl rfl rfl),Q_HO232,Q_HO_10,Q_HO_191003,Q_HO_191004,Q_HO_192003,Q_HO_192004,Q_HO_228003,Q_HO_228004,Q_BK190,Q_BK191,Q_BK227,Q_HB⟩
         refine steps_cons ?_ ?_
         ·rintro b a w' ⟨ha,Q_HO232,Q_HO_10,Q_HO_191003,Q_HO_191004,Q_HO_192003,Q_HO_192004,Q_HO_228003,Q_HO_228004,Q_BK190,Q_BK191,Q_BK227,Q_HB⟩ hb_ hon hoff
          refine ⟨_,rfl,fun K hK => ?_⟩
          have e75 : a.tmps[75]? = some (.slice Ao39 t211.length co39) := by rw [ha];exact putSel_on (e := (3,75,.slice Ao39 t211.length co39)) 2 rfl rfl (hon 3 (by kernel_rfl)) rfl
          have e74 : a.tmps[74]? = some (.bool (t233 == 0)) := by rw [ha];exact putSel_on (e := (2,74,.bool (t233 == 0))) 1 rfl rfl (hon 2 (by kernel_rfl)) rfl
          replace ha := Aside0.mk ha
          have HO232 := Aside0.mk Q_HO232
          have HO_10 := Aside0.mk Q_HO_10
          have HO_191003 := Aside0.mk Q_HO_191003
          have HO_191004 := Aside0.mk Q_HO_191004
          have HO_192003 := Aside0.mk Q_HO_192003
          have HO_192004 := Aside0.mk Q_HO_192004
          have HO_228003 := Aside0.mk Q_HO_228003
          have HO_228004 := Aside0.mk Q_HO_228004
          have BK190 := Aside0.mk Q_BK190
          have BK191 := Aside0.mk Q_BK191
          have BK227 := Aside0.mk Q_BK227
          have HB := Aside0.mk Q_HB
          have hcv_ := own_string (P := Try.prog) Try.underlying28 Try.underlying5 Try.underlying9 (Kd.own_of_R HO_10.out)
          refine value_ (w1 := w') (v := .string (strOfNums t211)) (wanted_on rfl rfl rfl (e74.trans (by first | rfl|(simp [*];done)))) rfl ?_ ?_
          ·go_simp
           (try simp only [i64_w])
           try rfl
          refine hK.out _ _ ⟨(by rw [ha.out];exact putSel_upk 3 hb_ rfl rfl rfl),Q_HO232,Q_HO_10,Q_HO_191003,Q_HO_191004,Q_HO_192003,Q_HO_192004,Q_HO_228003,Q_HO_228004,Q_BK190,Q_BK191,Q_BK227,Q_HB⟩
         refine steps_cons ?_ ?_
         ·rintro b a w' ⟨ha,Q_HO232,Q_HO_10,Q_HO_191003,Q_HO_191004,Q_HO_192003,Q_HO_192004,Q_HO_228003,Q_HO_228004,Q_BK190,Q_BK191,Q_BK227,Q_HB⟩ hb_ hon hoff
          refine ⟨_,rfl,fun K hK => ?_⟩
          have e14 : a.tmps[14]? = some (v231) := by rw [ha];exact (putSel_off rfl).trans rfl
          have e74 : a.tmps[74]? = some (.bool (t233 == 0)) := by rw [ha];exact putSel_on (e := (2,74,.bool (t233 == 0))) 1 rfl rfl (hon 2 (by kernel_rfl)) rfl
          replace ha := Aside0.mk ha
          have HO232 := Aside0.mk Q_HO232
          have HO_10 := Aside0.mk Q_HO_10
          have HO_191003 := Aside0.mk Q_HO_191003
          have HO_191004 := Aside0.mk Q_HO_191004
          have HO_192003 := Aside0.mk Q_HO_192003
          have HO_192004 := Aside0.mk Q_HO_192004
          have HO_228003 := Aside0.mk Q_HO_228003
          have HO_228004 := Aside0.mk Q_HO_228004
          have BK190 := Aside0.mk Q_BK190
          have BK191 := Aside0.mk Q_BK191
          have BK227 := Aside0.mk Q_BK227
          have HB := Aside0.mk Q_HB
          refine value_ (w1 := w') (v := v231) (wanted_on rfl rfl rfl (e74.trans (by first | rfl|(simp [*];done)))) rfl ?_ ?_
          ·go_simp
           (try simp only [i64_w])
           try rfl
          refine hK.out _ _ ⟨(by rw [ha.out];exact putSel_upk 4 hb_ rfl rfl rfl),Q_HO232,Q_HO_10,Q_HO_191003,Q_HO_191004,Q_HO_192003,Q_HO_192004,Q_HO_228003,Q_HO_228004,Q_BK190,Q_BK191,Q_BK227,Q_HB⟩
         refine steps_cons ?_ ?_
         ·rintro b a w' ⟨ha,Q_HO232,Q_HO_10,Q_HO_191003,Q_HO_191004,Q_HO_192003,Q_HO_192004,Q_HO_228003,Q_HO_228004,Q_BK190,Q_BK191,Q_BK227,Q_HB⟩ hb_ hon hoff
          refine ⟨_,rfl,fun K hK => ?_⟩
          have e77 : a.tmps[77]? = some (v231) := by rw [ha];exact putSel_on (e := (5,77,v231)) 4 rfl rfl (hon 5 (by kernel_rfl)) rfl
          have e74 : a.tmps[74]? = some (.bool (t233 == 0)) := by rw [ha];exact putSel_on (e := (2,74,.bool (t233 == 0))) 1 rfl rfl (hon 2 (by kernel_rfl)) rfl
          replace ha := Aside0.mk ha
          have HO232 := Aside0.mk Q_HO232
          have HO_10 := Aside0.mk Q_HO_10
          have HO_191003 := Aside0.mk Q_HO_191003
          have HO_191004 := Aside0.mk Q_HO_191004
          have HO_192003 := Aside0.mk Q_HO_192003
          have HO_192004 := Aside0.mk Q_HO_192004
          have HO_228003 := Aside0.mk Q_HO_228003
          have HO_228004 := Aside0.mk Q_HO_228004
          have BK190 := Aside0.mk Q_BK190
          have BK191 := Aside0.mk Q_BK191
          have BK227 := Aside0.mk Q_BK227
          have HB := Aside0.mk Q_HB
          have hcv_ := own_string (P := Try.prog) Try.underlying28 Try.underlying5 Try.underlying9 (Kd.own_of_R HO232.out)
          refine value_ (w1 := w') (v := .string (strOfNums t230)) (wanted_on rfl rfl rfl (e74.trans (by first | rfl|(simp [*];done)))) rfl ?_ ?_
          ·go_simp
           (try simp only [i64_w])
           try rfl
          refine hK.out _ _ ⟨(by rw [ha.out];exact putSel_upk 5 hb_ rfl rfl rfl),Q_HO232,Q_HO_10,Q_HO_191003,Q_HO_191004,Q_HO_192003,Q_HO_192004,Q_HO_228003,Q_HO_228004,Q_BK190,Q_BK191,Q_BK227,Q_HB⟩
         refine steps_cons ?_ ?_
         ·rintro b a w' ⟨ha,Q_HO232,Q_HO_10,Q_HO_191003,Q_HO_191004,Q_HO_192003,Q_HO_192004,Q_HO_228003,Q_HO_228004,Q_BK190,Q_BK191,Q_BK227,Q_HB⟩ hb_ hon hoff
          refine ⟨_,rfl,fun K hK => ?_⟩
          have e76 : a.tmps[76]? = some (.string (strOfNums t211)) := by rw [ha];exact putSel_on (e := (4,76,.string (strOfNums t211))) 3 rfl rfl (hon 4 (by kernel_rfl)) rfl
          have e78 : a.tmps[78]? = some (.string (strOfNums t230)) := by rw [ha];exact putSel_on (e := (6,78,.string (strOfNums t230))) 5 rfl rfl (hon 6 (by kernel_rfl)) rfl
          have e74 : a.tmps[74]? = some (.bool (t233 == 0)) := by rw [ha];exact putSel_on (e := (2,74,.bool (t233 == 0))) 1 rfl rfl (hon 2 (by kernel_rfl)) rfl
          replace ha := Aside0.mk ha
          have HO232 := Aside0.mk Q_HO232
          have HO_10 := Aside0.mk Q_HO_10
          have HO_191003 := Aside0.mk Q_HO_191003
          have HO_191004 := Aside0.mk Q_HO_191004
          have HO_192003 := Aside0.mk Q_HO_192003
          have HO_192004 := Aside0.mk Q_HO_192004
          have HO_228003 := Aside0.mk Q_HO_228003
          have HO_228004 := Aside0.mk Q_HO_228004
          have BK190 := Aside0.mk Q_BK190
          have BK191 := Aside0.mk Q_BK191
          have BK227 := Aside0.mk Q_BK227
          have HB := Aside0.mk Q_HB
          refine value_ (w1 := w') (v := .bool ((strOfNums t211).toList == (strOfNums t230).toList)) (wanted_on rfl rfl rfl (e74.trans (by first | rfl|(simp [*];done)))) rfl ?_ ?_
          ·go_simp
           (try simp only [i64_w])
           try rfl
          refine hK.out _ _ ⟨(by rw [ha.out];exact putSel_upk 6 hb_ rfl rfl rfl),Q_HO232,Q_HO_10,Q_HO_191003,Q_HO_191004,Q_HO_192003,Q_HO_192004,Q_HO_228003,Q_HO_228004,Q_BK190,Q_BK191,Q_BK227,Q_HB⟩
         refine steps_cons ?_ ?_
         ·rintro b a w' ⟨ha,Q_HO232,Q_HO_10,Q_HO_191003,Q_HO_191004,Q_HO_192003,Q_HO_192004,Q_HO_228003,Q_HO_228004,Q_BK190,Q_BK191,Q_BK227,Q_HB⟩ hb_ hon hoff
          refine ⟨_,rfl,fun K hK => ?_⟩
          have e4 : a.tmps[4]? = some (.pointer (some ⟨gb190,0,none⟩)) := by rw [ha];exact (putSel_off rfl).trans rfl
          have e74 : a.tmps[74]? = some (.bool (t233 == 0)) := by rw [ha];exact putSel_on (e := (2,74,.bool (t233 == 0))) 1 rfl rfl (hon 2 (by kernel_rfl)) rfl
          replace ha := Aside0.mk ha
          have HO232 := Aside0.mk Q_HO232
          have HO_10 := Aside0.mk Q_HO_10
          have HO_191003 := Aside0.mk Q_HO_191003
          have HO_191004 := Aside0.mk Q_HO_191004
          have HO_192003 := Aside0.mk Q_HO_192003
          have HO_192004 := Aside0.mk Q_HO_192004
          have HO_228003 := Aside0.mk Q_HO_228003
          have HO_228004 := Aside0.mk Q_HO_228004
          have BK190 := Aside0.mk Q_BK190
          have BK191 := Aside0.mk Q_BK191
          have BK227 := Aside0.mk Q_BK227
          have HB := Aside0.mk Q_HB
          have hc0_ : w'.cell? ⟨gb190,0,none⟩ = some (.int .i64 t193) := (blk_cell BK190.out 0).trans rfl
          have hc1_ : w'.cell? ⟨gb190,1,none⟩ = some (.int .i64 t194) := (blk_cell BK190.out 1).trans rfl
          have hc2_ : w'.cell? ⟨gb190,2,none⟩ = some (.int .i64 t195) := (blk_cell BK190.out 2).trans rfl
          have hc3_ : w'.cell? ⟨gb190,3,none⟩ = some (.slice Ao23 t196.length co23) := (blk_cell BK190.out 3).trans rfl
          have hc4_ : w'.cell? ⟨gb190,4,none⟩ = some (.slice Ao25 t199.length co25) := (blk_cell BK190.out 4).trans rfl
          refine value_ (w1 := w') (v := .agg #[.int .i64 t193,.int .i64 t194,.int .i64 t195,.slice Ao23 t196.length co23,.slice Ao25 t199.length co25]) (wanted_on rfl rfl rfl (e74.trans (by first | rfl|(simp [*];done)))) rfl ?_ ?_
          ·go_simp
           (try simp only [i64_w])
           try rfl
          refine hK.out _ _ ⟨(by rw [ha.out];exact putSel_upk 7 hb_ rfl rfl rfl),Q_HO232,Q_HO_10,Q_HO_191003,Q_HO_191004,Q_HO_192003,Q_HO_192004,Q_HO_228003,Q_HO_228004,Q_BK190,Q_BK191,Q_BK227,Q_HB⟩
         refine steps_cons ?_ ?_
         ·rintro b a w' ⟨ha,Q_HO232,Q_HO_10,Q_HO_191003,Q_HO_191004,Q_HO_192003,Q_HO_192004,Q_HO_228003,Q_HO_228004,Q_BK190,Q_BK191,Q_BK227,Q_HB⟩ hb_ hon hoff
          refine ⟨_,rfl,fun K hK => ?_⟩
          have e5 : a.tmps[5]? = some (.pointer (some ⟨gb191,0,none⟩)) := by rw [ha];exact (putSel_off rfl).trans rfl
          have e74 : a.tmps[74]? = some (.bool (t233 == 0)) := by rw [ha];exact putSel_on (e := (2,74,.bool (t233 == 0))) 1 rfl rfl (hon 2 (by kernel_rfl)) rfl
          replace ha := Aside0.mk ha
          have HO232 := Aside0.mk Q_HO232
          have HO_10 := Aside0.mk Q_HO_10
          have HO_191003 := Aside0.mk Q_HO_191003
          have HO_191004 := Aside0.mk Q_HO_191004
          have HO_192003 := Aside0.mk Q_HO_192003
          have HO_192004 := Aside0.mk Q_HO_192004
          have HO_228003 := Aside0.mk Q_HO_228003
          have HO_228004 := Aside0.mk Q_HO_228004
          have BK190 := Aside0.mk Q_BK190
          have BK191 := Aside0.mk Q_BK191
          have BK227 := Aside0.mk Q_BK227
          have HB := Aside0.mk Q_HB
          have hc0_ : w'.cell? ⟨gb191,0,none⟩ = some (.int .i64 t202) := (blk_cell BK191.out 0).trans rfl
          have hc1_ : w'.cell? ⟨gb191,1,none⟩ = some (.int .i64 t203) := (blk_cell BK191.out 1).trans rfl
          have hc2_ : w'.cell? ⟨gb191,2,none⟩ = some (.int .i64 t204) := (blk_cell BK191.out 2).trans rfl
          have hc3_ : w'.cell? ⟨gb191,3,none⟩ = some (.slice Ao30 t205.length co30) := (blk_cell BK191.out 3).trans rfl
          have hc4_ : w'.cell? ⟨gb191,4,none⟩ = some (.slice Ao32 t208.length co32) := (blk_cell BK191.out 4).trans rfl
          refine value_ (w1 := w') (v := .agg #[.int .i64 t202,.int .i64 t203,.int .i64 t204,.slice Ao30 t205.length co30,.slice Ao32 t208.length co32]) (wanted_on rfl rfl rfl (e74.trans (by first | rfl|(simp [*];done)))) rfl ?_ ?_
          ·go_simp
           (try simp only [i64_w])
           try rfl
          refine hK.out _ _ ⟨(by rw [ha.out];exact putSel_upk 8 hb_ rfl rfl rfl),Q_HO232,Q_HO_10,Q_HO_191003,Q_HO_191004,Q_HO_192003,Q_HO_192004,Q_HO_228003,Q_HO_228004,Q_BK190,Q_BK191,Q_BK227,Q_HB⟩
         refine steps_cons ?_ ?_
         ·rintro b a w' ⟨ha,Q_HO232,Q_HO_10,Q_HO_191003,Q_HO_191004,Q_HO_192003,Q_HO_192004,Q_HO_228003,Q_HO_228004,Q_BK190,Q_BK191,Q_BK227,Q_HB⟩ hb_ hon hoff
          refine ⟨_,rfl,fun K hK => ?_⟩
          have e80 : a.tmps[80]? = some (.agg #[.int .i64 t193,.int .i64 t194,.int .i64 t195,.slice Ao23 t196.length co23,.slice Ao25 t199.length co25]) := by rw [ha];exact putSel_on (e := (8,80,.agg #[.int .i64 t193,.int .i64 t194,.int .i64 t195,.slice Ao23 t196.length co23,.slice Ao25 t199.length co25])) 7 rfl rfl (hon 8 (by kernel_rfl)) rfl
          have e81 : a.tmps[81]? = some (.agg #[.int .i64 t202,.int .i64 t203,.int .i64 t204,.slice Ao30 t205.length co30,.slice Ao32 t208.length co32]) := by rw [ha];exact putSel_on (e := (9,81,.agg #[.int .i64 t202,.int .i64 t203,.int .i64 t204,.slice Ao30 t205.length co30,.slice Ao32 t208.length co32])) 8 rfl rfl (hon 9 (by kernel_rfl)) rfl
          have e74 : a.tmps[74]? = some (.bool (t233 == 0)) := by rw [ha];exact putSel_on (e := (2,74,.bool (t233 == 0))) 1 rfl rfl (hon 2 (by kernel_rfl)) rfl
          replace ha := Aside0.mk ha
          have HO232 := Aside0.mk Q_HO232
          have HO_10 := Aside0.mk Q_HO_10
          have HO_191003 := Aside0.mk Q_HO_191003
          have HO_191004 := Aside0.mk Q_HO_191004
          have HO_192003 := Aside0.mk Q_HO_192003
          have HO_192004 := Aside0.mk Q_HO_192004
          have HO_228003 := Aside0.mk Q_HO_228003
          have HO_228004 := Aside0.mk Q_HO_228004
          have BK190 := Aside0.mk Q_BK190
          have BK191 := Aside0.mk Q_BK191
          have BK227 := Aside0.mk Q_BK227
          have HB := Aside0.mk Q_HB
          refine goes_ Try.func29 (by kernel_rfl) rfl #[.agg #[.int .i64 t193,.int .i64 t194,.int .i64 t195,.slice Ao23 t196.length co23,.slice Ao25 t199.length co25],.agg #[.int .i64 t202,.int .i64 t203,.int .i64 t204,.slice Ao30 t205.length co30,.slice Ao32 t208.length co32]] (wanted_on rfl rfl rfl (e74.trans (by first | rfl|(simp [*];done)))) rfl rfl (by first|(simp only [List.map_toArray,List.map_cons,List.map_nil,Act.eval,Array.getD_eq_getD_getElem?,Option.getD_some,e80,e81,e74];done)|(simp only [List.map_toArray,List.map_cons,List.map_nil,Act.eval,Array.getD_eq_getD_getElem?,Option.getD_some,e80,e81,e74];rfl)) ?_
          with_reducible refine (incipitref12_EqEdit.calls kj12 t193 t194 t195 _ _ t196 _ _ t199 t202 t203 t204 _ _ t205 _ _ t208 t234 _ ?side1 ?side2 ?side3 ?side4 ?side5 ?side6 ?side7 ?side8 A74.out).mono ?_
          (case side1 => repeat (first|exact (Kd.R_reads' HO_191003.out).2.2|(with_reducible refine Kd.C_alloc ?_ _)|(with_reducible refine Kd.C_drewN ?_ _)|(with_reducible refine Kd.C_drew ?_)))
          (case side2 => exact (Kd.R_reads' HO_191003.out).2.1)
          (case side3 => repeat (first|exact (Kd.V_reads' HO_191004.out).2.2|(with_reducible refine Kd.C_alloc ?_ _)|(with_reducible refine Kd.C_drewN ?_ _)|(with_reducible refine Kd.C_drew ?_)))
          (case side4 => exact (Kd.V_reads' HO_191004.out).2.1)
          (case side5 => repeat (first|exact (Kd.R_reads' HO_192003.out).2.2|(with_reducible refine Kd.C_alloc ?_ _)|(with_reducible refine Kd.C_drewN ?_ _)|(with_reducible refine Kd.C_drew ?_)))
          (case side6 => exact (Kd.R_reads' HO_192003.out).2.1)
          (case side7 => repeat (first|exact (Kd.V_reads' HO_192004.out).2.2|(with_reducible refine Kd.C_alloc ?_ _)|(with_reducible refine Kd.C_drewN ?_ _)|(with_reducible refine Kd.C_drew ?_)))
          (case side8 => exact (Kd.V_reads' HO_192004.out).2.1)
          rintro e w76 ⟨rfl,hb⟩
          refine ⟨_,rfl,?_⟩
          have n0_ := Aside0.mk (Kd.R_below (by (with_reducible repeat (first|apply Kd.R_alloc|apply Kd.R_drewN|apply Kd.R_drew));exact HO_10.out) hb)
          have n1_ := Aside0.mk (Kd.R_below (by (with_reducible repeat (first|apply Kd.R_alloc|apply Kd.R_drewN|apply Kd.R_drew));exact HO_191003.out) hb)
          have n2_ := Aside0.mk (Kd.V_below (by (with_reducible repeat (first|apply Kd.V_alloc|apply Kd.V_drewN|apply Kd.V_drew));exact HO_191004.out) hb)
          have n3_ := Aside0.mk (Kd.R_below (by (with_reducible repeat (first|apply Kd.R_alloc|apply Kd.R_drewN|apply Kd.R_drew));exact HO_192003.out) hb)
          have n4_ := Aside0.mk (Kd.V_below (by (with_reducible repeat (first|apply Kd.V_alloc|apply Kd.V_drewN|apply Kd.V_drew));exact HO_192004.out) hb)
          have n5_ := Aside0.mk (Kd.R_below (by (with_reducible repeat (first|apply Kd.R_alloc|apply Kd.R_drewN|apply Kd.R_drew));exact HO_228003.out) hb)
          have n6_ := Aside0.mk (Kd.R_below (by (with_reducible repeat (first|apply Kd.R_alloc|apply Kd.R_drewN|apply Kd.R_drew));exact HO_228004.out) hb)
          have n7_ := Aside0.mk (Kd.R_below (by (with_reducible repeat (first|apply Kd.R_alloc|apply Kd.R_drewN|apply Kd.R_drew));exact HO232.out) hb)
          have n8_ := Aside0.mk (blk_below (g := gb190) (o := .cells #[.int .i64 t193,.int .i64 t194,.int .i64 t195,.slice Ao23 t196.length co23,.slice Ao25 t199.length co25] 43 (0,0)) (by (with_reducible repeat (first|refine blk_drewN ?_ _|refine blk_drew ?_|refine blk_alloc ?_ _));exact BK190.out) hb)
          have n9_ := Aside0.mk (blk_below (g := gb191) (o := .cells #[.int .i64 t202,.int .i64 t203,.int .i64 t204,.slice Ao30 t205.length co30,.slice Ao32 t208.length co32] 43 (0,0)) (by (with_reducible repeat (first|refine blk_drewN ?_ _|refine blk_drew ?_|refine blk_alloc ?_ _));exact BK191.out) hb)
          have n10_ := Aside0.mk (blk_below (g := gb227) (o := .cells #[.int .i64 t217,.int .i64 t218,.int .i64 t219,.slice Ao45 t220.length co45,.slice Ao46 t223.length co46] 43 (0,0)) (by (with_reducible repeat (first|refine blk_drewN ?_ _|refine blk_drew ?_|refine blk_alloc ?_ _));exact BK227.out) hb)
          have n11_ := Aside0.mk (below_step (by repeat (first|(with_reducible first|exact HB.out|apply below_alloc|apply pw_below_drewN|apply below_drew1|refine below_set ?_ GE190.out|refine below_set ?_ GE191.out|refine below_set ?_ GE227.out)|exact HB.out)) hb)
          clear HO_10
          clear HO_191003
          clear HO_191004
          clear HO_192003
          clear HO_192004
          clear HO_228003
          clear HO_228004
          clear HO232
          clear BK190
          clear BK191
          clear BK227
          clear HB
          have HO_10 := n0_
          have HO_191003 := n1_
          have HO_191004 := n2_
          have HO_192003 := n3_
          have HO_192004 := n4_
          have HO_228003 := n5_
          have HO_228004 := n6_
          have HO232 := n7_
          have BK190 := n8_
          have BK191 := n9_
          have BK227 := n10_
          have HB := n11_
          clear n0_ n1_ n2_ n3_ n4_ n5_ n6_ n7_ n8_ n9_ n10_ n11_
          (try clear hb)
          (try clear hb2)
          (try clear hk)
          (try clear hi)
          refine hK.out _ _ ⟨(by rw [ha.out];exact putSel_upk 9 hb_ rfl rfl rfl),(by (with_reducible repeat (first|apply Kd.R_alloc|apply Kd.R_drewN|apply Kd.R_drew));exact HO232.out),(by (with_reducible repeat (first|apply Kd.R_alloc|apply Kd.R_drewN|apply Kd.R_drew));exact HO_10.out),(by (with_reducible repeat (first|apply Kd.R_alloc|apply Kd.R_drewN|apply Kd.R_drew));exact HO_191003.out),(by (with_reducible repeat (first|apply Kd.V_alloc|apply Kd.V_drewN|apply Kd.V_drew));exact HO_191004.out),(by (with_reducible repeat (first|apply Kd.R_alloc|apply Kd.R_drewN|apply Kd.R_drew));exact HO_192003.out),(by (with_reducible repeat (first|apply Kd.V_alloc|apply Kd.V_drewN|apply Kd.V_drew));exact HO_192004.out),(by (with_reducible repeat (first|apply Kd.R_alloc|apply Kd.R_drewN|apply Kd.R_drew));exact HO_228003.out),(by (with_reducible repeat (first|apply Kd.R_alloc|apply Kd.R_drewN|apply Kd.R_drew));exact HO_228004.out),(by (with_reducible repeat (first|refine blk_drewN ?_ _|refine blk_drew ?_|refine blk_alloc ?_ _));exact BK190.out),(by (with_reducible repeat (first|refine blk_drewN ?_ _|refine blk_drew ?_|refine blk_alloc ?_ _));exact BK191.out),(by (with_reducible repeat (first|refine blk_drewN ?_ _|refine blk_drew ?_|refine blk_alloc ?_ _));exact BK227.out),(by repeat (first|(with_reducible first|exact HB.out|apply below_alloc|apply pw_below_drewN|apply below_drew1|refine below_set ?_ GE190.out|refine below_set ?_ GE191.out|refine below_set ?_ GE227.out)|exact HB.out))⟩
         refine steps_cons ?_ ?_
         ·rintro b a w' ⟨ha,Q_HO232,Q_HO_10,Q_HO_191003,Q_HO_191004,Q_HO_192003,Q_HO_192004,Q_HO_228003,Q_HO_228004,Q_BK190,Q_BK191,Q_BK227,Q_HB⟩ hb_ hon hoff
          refine ⟨_,rfl,fun K hK => ?_⟩
          have e79 : a.tmps[79]? = some (.bool ((strOfNums t211).toList == (strOfNums t230).toList)) := by rw [ha];exact putSel_on (e := (7,79,.bool ((strOfNums t211).toList == (strOfNums t230).toList))) 6 rfl rfl (hon 7 (by kernel_rfl)) rfl
          have e82 : a.tmps[82]? = some (.bool t234) := by rw [ha];exact putSel_on (e := (10,82,.bool t234)) 9 rfl rfl (hon 10 (by kernel_rfl)) rfl
          have e74 : a.tmps[74]? = some (.bool (t233 == 0)) := by rw [ha];exact putSel_on (e := (2,74,.bool (t233 == 0))) 1 rfl rfl (hon 2 (by kernel_rfl)) rfl
          replace ha := Aside0.mk ha
          have HO232 := Aside0.mk Q_HO232
          have HO_10 := Aside0.mk Q_HO_10
          have HO_191003 := Aside0.mk Q_HO_191003
          have HO_191004 := Aside0.mk Q_HO_191004
          have HO_192003 := Aside0.mk Q_HO_192003
          have HO_192004 := Aside0.mk Q_HO_192004
          have HO_228003 := Aside0.mk Q_HO_228003
          have HO_228004 := Aside0.mk Q_HO_228004
          have BK190 := Aside0.mk Q_BK190
          have BK191 := Aside0.mk Q_BK191
          have BK227 := Aside0.mk Q_BK227
          have HB := Aside0.mk Q_HB
          refine value_ (w1 := w') (v := .bool (((strOfNums t211).toList == (strOfNums t230).toList) != t234)) (wanted_on rfl rfl rfl (e74.trans (by first | rfl|(simp [*];done)))) rfl ?_ ?_
          ·go_simp
           (try simp only [i64_w])
           try rfl
           try simp only [bne,Bool.not_not]
          refine hK.out _ _ ⟨(by rw [ha.out];exact putSel_upk 10 hb_ rfl rfl rfl),Q_HO232,Q_HO_10,Q_HO_191003,Q_HO_191004,Q_HO_192003,Q_HO_192004,Q_HO_228003,Q_HO_228004,Q_BK190,Q_BK191,Q_BK227,Q_HB⟩
         refine steps_cons ?_ ?_
         ·rintro b a w' ⟨ha,Q_HO232,Q_HO_10,Q_HO_191003,Q_HO_191004,Q_HO_192003,Q_HO_192004,Q_HO_228003,Q_HO_228004,Q_BK190,Q_BK191,Q_BK227,Q_HB⟩ hb_ hon hoff
          refine ⟨_,rfl,fun K hK => ?_⟩
          have e74 : a.tmps[74]? = some (.bool (t233 == 0)) := by rw [ha];exact putSel_on (e := (2,74,.bool (t233 == 0))) 1 rfl rfl (hon 2 (by kernel_rfl)) rfl
          have e83 : a.tmps[83]? = some (.bool (((strOfNums t211).toList == (strOfNums t230).toList) != t234)) := by rw [ha];exact putSel_on (e := (11,83,.bool (((strOfNums t211).toList == (strOfNums t230).toList) != t234))) 10 rfl rfl (hon 11 (by kernel_rfl)) rfl
          replace ha := Aside0.mk ha
          have HO232 := Aside0.mk Q_HO232
          have HO_10 := Aside0.mk Q_HO_10
          have HO_191003 := Aside0.mk Q_HO_191003
          have HO_191004 := Aside0.mk Q_HO_191004
          have HO_192003 := Aside0.mk Q_HO_192003
          have HO_192004 := Aside0.mk Q_HO_192004
          have HO_228003 := Aside0.mk Q_HO_228003
          have HO_228004 := Aside0.mk Q_HO_228004
          have BK190 := Aside0.mk Q_BK190
          have BK191 := Aside0.mk Q_BK191
          have BK227 := Aside0.mk Q_BK227
          have HB := Aside0.mk Q_HB
          refine value_ (w1 := w') (v := .bool (((strOfNums t211).toList == (strOfNums t230).toList) != t234)) (by rfl) rfl ?_ ?_
          ·go_simp
           (try simp only [i64_w])
           try rfl
          refine hK.out _ _ ⟨(by rw [ha.out];exact putSel_upk 11 hb_ rfl rfl rfl),Q_HO232,Q_HO_10,Q_HO_191003,Q_HO_191004,Q_HO_192003,Q_HO_192004,Q_HO_228003,Q_HO_228004,Q_BK190,Q_BK191,Q_BK227,Q_HB⟩
         exact steps_nil
        rintro b a w77 hall ⟨ha,Q_HO232,Q_HO_10,Q_HO_191003,Q_HO_191004,Q_HO_192003,Q_HO_192004,Q_HO_228003,Q_HO_228004,Q_BK190,Q_BK191,Q_BK227,Q_HB⟩
        clear BK190 BK191 BK227 HB HO232 HO_10 HO_191003 HO_191004 HO_192003 HO_192004 HO_228003 HO_228004
        have hb1_ := hall 1 (by kernel_rfl)
        have hb2_ := hall 2 (by kernel_rfl)
        have hb3_ := hall 3 (by kernel_rfl)
        have hb4_ := hall 4 (by kernel_rfl)
        have hb5_ := hall 5 (by kernel_rfl)
        have hb6_ := hall 6 (by kernel_rfl)
        have hb7_ := hall 7 (by kernel_rfl)
        have hb8_ := hall 8 (by kernel_rfl)
        have hb9_ := hall 9 (by kernel_rfl)
        have hb10_ := hall 10 (by kernel_rfl)
        have hb11_ := hall 11 (by kernel_rfl)
        have hb12_ := hall 12 (by kernel_rfl)
        subst ha
        simp only [putSel,hb1_,hb2_,hb3_,hb4_,hb5_,hb6_,hb7_,hb8_,hb9_,hb10_,hb11_,hb12_,if_true,Act.put,List.setIfInBounds_toArray,List.set_cons_zero,List.set_cons_succ]
        have HO232 := Aside0.mk Q_HO232
        clear Q_HO232
        have HO_10 := Aside0.mk Q_HO_10
        clear Q_HO_10
        have HO_191003 := Aside0.mk Q_HO_191003
        clear Q_HO_191003
        have HO_191004 := Aside0.mk Q_HO_191004
        clear Q_HO_191004
        have HO_192003 := Aside0.mk Q_HO_192003
        clear Q_HO_192003
        have HO_192004 := Aside0.mk Q_HO_192004
        clear Q_HO_192004
        have HO_228003 := Aside0.mk Q_HO_228003
        clear Q_HO_228003
        have HO_228004 := Aside0.mk Q_HO_228004
        clear Q_HO_228004
        have BK190 := Aside0.mk Q_BK190
        clear Q_BK190
        have BK191 := Aside0.mk Q_BK191
        clear Q_BK191
        have BK227 := Aside0.mk Q_BK227
        clear Q_BK227
        have HB := Aside0.mk Q_HB
        clear Q_HB
        clear hall hb1_ hb2_ hb3_ hb4_ hb5_ hb6_ hb7_ hb8_ hb9_ hb10_ hb11_ hb12_
        try go_wp2
        go_meet
        case rel => exact ⟨_,((((strOfNums t211).toList == (strOfNums t230).toList) != t234)),(by first | rfl|(simp;done)|(simp [*];done)),H',⟨by have := HJ12.out;first | omega|exact Nat.le_refl _⟩,⟨by (with_reducible repeat (first|apply Kd.R_alloc|apply Kd.R_drewN|apply Kd.R_drew));exact Kd.R_mono HO_10.out (fun _ hk => trivial)⟩,⟨by (with_reducible repeat (first|apply Kd.R_alloc|apply Kd.R_drewN|apply Kd.R_drew));exact HO_191003.out⟩,⟨by (with_reducible repeat (first|apply Kd.V_alloc|apply Kd.V_drewN|apply Kd.V_drew));exact Kd.V_mono HO_191004.out (fun _ hk => ⟨hk.2.1,⟨hk.2.2.1,⟨hk.2.2.2.1,⟨hk.2.2.2.2.1,⟨hk.2.2.2.2.2.1,⟨hk.2.2.2.2.2.2.1,⟨hk.2.2.2.2.2.2.2.1,hk.2.2.2.2.2.2.2.2⟩⟩⟩⟩⟩⟩⟩)⟩,⟨by (with_reducible repeat (first|apply Kd.R_alloc|apply Kd.R_drewN|apply Kd.R_drew));exact HO_192003.out⟩,⟨by (with_reducible repeat (first|apply Kd.V_alloc|apply Kd.V_drewN|apply Kd.V_drew));exact Kd.V_mono HO_192004.out (fun _ hk => ⟨hk.2.1,⟨hk.2.2.1,⟨hk.2.2.2.1,⟨hk.2.2.2.2.1,⟨hk.2.2.2.2.2.1,⟨hk.2.2.2.2.2.2.1,⟨hk.2.2.2.2.2.2.2.1,hk.2.2.2.2.2.2.2.2⟩⟩⟩⟩⟩⟩⟩)⟩,⟨by (with_reducible repeat (first|apply Kd.R_alloc|apply Kd.R_drewN|apply Kd.R_drew));exact HO_228003.out⟩,⟨by (with_reducible repeat (first|apply Kd.R_alloc|apply Kd.R_drewN|apply Kd.R_drew));exact HO_228004.out⟩,⟨by (with_reducible repeat (first|refine blk_drewN ?_ _|refine blk_drew ?_|refine blk_alloc ?_ _));exact BK190.out⟩,⟨by (with_reducible repeat (first|refine blk_drewN ?_ _|refine blk_drew ?_|refine blk_alloc ?_ _));exact BK191.out⟩,⟨by (with_reducible repeat (first|refine blk_drewN ?_ _|refine blk_drew ?_|refine blk_alloc ?_ _));exact BK227.out⟩,⟨by repeat (first|(with_reducible first|exact HB.out|apply below_alloc|apply pw_below_drewN|apply below_drew1|refine below_set ?_ GE190.out|refine below_set ?_ GE191.out|refine below_set ?_ GE227.out)|exact HB.out)⟩⟩
       ·rw [if_neg c73] at H
        have c73b0 : (t233 == 0) = false := beq_eq_false_iff_ne.mpr c73
        have c73b1 : (t233 != 0) = true := bne_iff_ne.mpr c73
        (first | rw [c73b0]|(simp only [i64_w,i32_w];rw [c73b0]) | skip)
        have H' := Aside0.mk H
        clear H
        try go_wp2
        have n0_ := Aside0.mk (Kd.R_drew HO_10.out)
        have n1_ := Aside0.mk (Kd.R_drew HO_191003.out)
        have n2_ := Aside0.mk (Kd.V_drew HO_191004.out)
        have n3_ := Aside0.mk (Kd.R_drew HO_192003.out)
        have n4_ := Aside0.mk (Kd.V_drew HO_192004.out)
        have n5_ := Aside0.mk (Kd.R_drew HO_228003.out)
        have n6_ := Aside0.mk (Kd.R_drew HO_228004.out)
        have n7_ := Aside0.mk (Kd.R_drew HO232.out)
        have n8_ := Aside0.mk (blk_drew BK190.out)
        have n9_ := Aside0.mk (blk_drew BK191.out)
        have n10_ := Aside0.mk (blk_drew BK227.out)
        have n11_ := Aside0.mk (below_drew1 HB.out)
        clear HO_10
        clear HO_191003
        clear HO_191004
        clear HO_192003
        clear HO_192004
        clear HO_228003
        clear HO_228004
        clear HO232
        clear BK190
        clear BK191
        clear BK227
        clear HB
        have HO_10 := n0_
        have HO_191003 := n1_
        have HO_191004 := n2_
        have HO_192003 := n3_
        have HO_192004 := n4_
        have HO_228003 := n5_
        have HO_228004 := n6_
        have HO232 := n7_
        have BK190 := n8_
        have BK191 := n9_
        have BK227 := n10_
        have HB := n11_
        clear n0_ n1_ n2_ n3_ n4_ n5_ n6_ n7_ n8_ n9_ n10_ n11_
        refine start_ (n := 13) (S := fun w' => True) (ds := []) #[false,false,false,false,false,false,false,false,false,false,false,false,false] (by kernel_rfl) rfl rfl trivial (fun hHeld => ?_);refine with_tabW incipitlaw19_EditBytes.tab12 incipitlaw19_EditBytes.bits12 (fun HT_ HW_ => ?_)
        generalize w72.drew = w78 at HO_10 HO_191003 HO_191004 HO_192003 HO_192004 HO_228003 HO_228004 HO232 BK190 BK191 BK227 HB hHeld ⊢
        refine pure_ (i := 0) (N := some 72) (v := ?_) (a' := ?_) #[true,false,false,false,false,false,false,false,false,false,false,false,false] rfl rfl (any_of HT_.out (by kernel_rfl)) (fun _ _ _ h => h) (Or.inl ⟨by rfl,?_⟩) ?_ ?_
        rotate_left
        ·intro w'
         go_simp
         with_reducible rfl
        rotate_left
        ·simp only [Act.put,List.setIfInBounds_toArray,List.set_cons_zero,List.set_cons_succ,i64_w,i32_w]
         rfl
        refine pure_ (i := 1) (N := some 73) (v := ?_) (a' := ?_) #[true,true,false,false,false,false,false,false,false,false,false,false,false] rfl rfl (any_of HT_.out (by kernel_rfl)) (fun _ _ _ h => h) (Or.inl ⟨by rfl,?_⟩) ?_ ?_
        rotate_left
        ·intro w'
         go_simp
         with_reducible rfl
        rotate_left
        ·simp only [Act.put,List.setIfInBounds_toArray,List.set_cons_zero,List.set_cons_succ,i64_w,i32_w]
         rfl
        refine pure_ (i := 2) (N := some 74) (v := ?_) (a' := ?_) #[true,true,true,false,false,false,false,false,false,false,false,false,false] rfl rfl (any_of HT_.out (by kernel_rfl)) (fun _ _ _ h => h) (Or.inl ⟨by rfl,?_⟩) ?_ ?_
        rotate_left
        ·intro w'
         go_simp
         with_reducible rfl
        rotate_left
        ·simp only [Act.put,List.setIfInBounds_toArray,List.set_cons_zero,List.set_cons_succ,i64_w,i32_w]
         rfl
        refine pure_ (i := 3) (N := some 75) (v := undef) (a' := ?_) #[true,true,true,true,false,false,false,false,false,false,false,false,false] rfl rfl (any_of HT_.out (by kernel_rfl)) (fun _ _ _ h => h) (Or.inr ⟨by rfl,rfl⟩) ?_ ?_
        rotate_left
        ·simp only [Act.put,List.setIfInBounds_toArray,List.set_cons_zero,List.set_cons_succ,i64_w,i32_w]
         rfl
        refine pure_ (i := 4) (N := some 76) (v := undef) (a' := ?_) #[true,true,true,true,true,false,false,false,false,false,false,false,false] rfl rfl (any_of HT_.out (by kernel_rfl)) (fun _ _ _ h => h) (Or.inr ⟨by rfl,rfl⟩) ?_ ?_
        rotate_left
        ·simp only [Act.put,List.setIfInBounds_toArray,List.set_cons_zero,List.set_cons_succ,i64_w,i32_w]
         rfl
        refine pure_ (i := 5) (N := some 77) (v := undef) (a' := ?_) #[true,true,true,true,true,true,false,false,false,false,false,false,false] rfl rfl (any_of HT_.out (by kernel_rfl)) (fun _ _ _ h => h) (Or.inr ⟨by rfl,rfl⟩) ?_ ?_
        rotate_left
        ·simp only [Act.put,List.setIfInBounds_toArray,List.set_cons_zero,List.set_cons_succ,i64_w,i32_w]
         rfl
        refine pure_ (i := 6) (N := some 78) (v := undef) (a' := ?_) #[true,true,true,true,true,true,true,false,false,false,false,false,false] rfl rfl (any_of HT_.out (by kernel_rfl)) (fun _ _ _ h => h) (Or.inr ⟨by rfl,rfl⟩) ?_ ?_
        rotate_left
        ·simp only [Act.put,List.setIfInBounds_toArray,List.set_cons_zero,List.set_cons_succ,i64_w,i32_w]
         rfl
        refine pure_ (i := 7) (N := some 79) (v := undef) (a' := ?_) #[true,true,true,true,true,true,true,true,false,false,false,false,false] rfl rfl (any_of HT_.out (by kernel_rfl)) (fun _ _ _ h => h) (Or.inr ⟨by rfl,rfl⟩) ?_ ?_
        rotate_left
        ·simp only [Act.put,List.setIfInBounds_toArray,List.set_cons_zero,List.set_cons_succ,i64_w,i32_w]
         rfl
        refine pure_ (i := 8) (N := some 80) (v := undef) (a' := ?_) #[true,true,true,true,true,true,true,true,true,false,false,false,false] rfl rfl (any_of HT_.out (by kernel_rfl)) (fun _ _ _ h => h) (Or.inr ⟨by rfl,rfl⟩) ?_ ?_
        rotate_left
        ·simp only [Act.put,List.setIfInBounds_toArray,List.set_cons_zero,List.set_cons_succ,i64_w,i32_w]
         rfl
        refine pure_ (i := 9) (N := some 81) (v := undef) (a' := ?_) #[true,true,true,true,true,true,true,true,true,true,false,false,false] rfl rfl (any_of HT_.out (by kernel_rfl)) (fun _ _ _ h => h) (Or.inr ⟨by rfl,rfl⟩) ?_ ?_
        rotate_left
        ·simp only [Act.put,List.setIfInBounds_toArray,List.set_cons_zero,List.set_cons_succ,i64_w,i32_w]
         rfl
        refine pure_ (i := 10) (N := some 82) (v := undef) (a' := ?_) #[true,true,true,true,true,true,true,true,true,true,true,false,false] rfl rfl (any_of HT_.out (by kernel_rfl)) (fun _ _ _ h => h) (Or.inr ⟨by rfl,rfl⟩) ?_ ?_
        rotate_left
        ·simp only [Act.put,List.setIfInBounds_toArray,List.set_cons_zero,List.set_cons_succ,i64_w,i32_w]
         rfl
        refine pure_ (i := 11) (N := some 83) (v := undef) (a' := ?_) #[true,true,true,true,true,true,true,true,true,true,true,true,false] rfl rfl (any_of HT_.out (by kernel_rfl)) (fun _ _ _ h => h) (Or.inr ⟨by rfl,rfl⟩) ?_ ?_
        rotate_left
        ·simp only [Act.put,List.setIfInBounds_toArray,List.set_cons_zero,List.set_cons_succ,i64_w,i32_w]
         rfl
        refine pure_ (i := 12) (N := some 84) (v := ?_) (a' := ?_) #[true,true,true,true,true,true,true,true,true,true,true,true,true] rfl rfl (any_of HT_.out (by kernel_rfl)) (fun _ _ _ h => h) (Or.inl ⟨by rfl,?_⟩) ?_ ?_
        rotate_left
        ·intro w'
         go_simp
         with_reducible rfl
        rotate_left
        ·simp only [Act.put,List.setIfInBounds_toArray,List.set_cons_zero,List.set_cons_succ,i64_w,i32_w]
         rfl
        refine done_ (done_of HT_.out (by kernel_rfl)) ?_
        try go_wp2
        go_meet
        case rel => exact ⟨_,(false),(by first | rfl|(simp;done)|(simp [*];done)),H',⟨by have := HJ12.out;first | omega|exact Nat.le_refl _⟩,⟨by (with_reducible repeat (first|apply Kd.R_alloc|apply Kd.R_drewN|apply Kd.R_drew));exact Kd.R_mono HO_10.out (fun _ hk => trivial)⟩,⟨by (with_reducible repeat (first|apply Kd.R_alloc|apply Kd.R_drewN|apply Kd.R_drew));exact HO_191003.out⟩,⟨by (with_reducible repeat (first|apply Kd.V_alloc|apply Kd.V_drewN|apply Kd.V_drew));exact Kd.V_mono HO_191004.out (fun _ hk => ⟨hk.1.1,⟨hk.1.2.1,⟨hk.1.2.2.1,⟨hk.1.2.2.2.1,⟨hk.1.2.2.2.2.1,⟨hk.1.2.2.2.2.2.1,⟨hk.1.2.2.2.2.2.2.1,hk.1.2.2.2.2.2.2.2⟩⟩⟩⟩⟩⟩⟩)⟩,⟨by (with_reducible repeat (first|apply Kd.R_alloc|apply Kd.R_drewN|apply Kd.R_drew));exact HO_192003.out⟩,⟨by (with_reducible repeat (first|apply Kd.V_alloc|apply Kd.V_drewN|apply Kd.V_drew));exact Kd.V_mono HO_192004.out (fun _ hk => ⟨hk.1.1,⟨hk.1.2.1,⟨hk.1.2.2.1,⟨hk.1.2.2.2.1,⟨hk.1.2.2.2.2.1,⟨hk.1.2.2.2.2.2.1,⟨hk.1.2.2.2.2.2.2.1,hk.1.2.2.2.2.2.2.2⟩⟩⟩⟩⟩⟩⟩)⟩,⟨by (with_reducible repeat (first|apply Kd.R_alloc|apply Kd.R_drewN|apply Kd.R_drew));exact HO_228003.out⟩,⟨by (with_reducible repeat (first|apply Kd.R_alloc|apply Kd.R_drewN|apply Kd.R_drew));exact HO_228004.out⟩,⟨by (with_reducible repeat (first|refine blk_drewN ?_ _|refine blk_drew ?_|refine blk_alloc ?_ _));exact BK190.out⟩,⟨by (with_reducible repeat (first|refine blk_drewN ?_ _|refine blk_drew ?_|refine blk_alloc ?_ _));exact BK191.out⟩,⟨by (with_reducible repeat (first|refine blk_drewN ?_ _|refine blk_drew ?_|refine blk_alloc ?_ _));exact BK227.out⟩,⟨by repeat (first|(with_reducible first|exact HB.out|apply below_alloc|apply pw_below_drewN|apply below_drew1|refine below_set ?_ GE190.out|refine below_set ?_ GE191.out|refine below_set ?_ GE227.out)|exact HB.out)⟩⟩
      case rest =>
       clear HC68
       try clear c1
       try clear c2
       try clear p2
       try clear c3
       try clear c4
       try clear c6
       try clear c7
       try clear c25
       try clear c29
       try clear c66
       try clear c69
       try clear c70
       try clear c73
       try clear c73b0
       try clear c73b1
       try clear hcz71_0
       try clear hcz71_1
       try clear hcz71_2
       try clear hcz71_3
       try clear hcz71_4
       try clear hfz71_0
       try clear hfz71_1
       try clear hfz71_2
       try clear hfz71_3
       try clear hfz71_4
       obtain ⟨kq,x84_67,rfl,HA,HJ67,HO_10,HO_191003,HO_191004,HO_192003,HO_192004,HO_228003,HO_228004,BK190,BK191,BK227,HB⟩ := hcut
       cases kq with
       | zero => exact absurd HA.out (by simp [incipitlaw19_EditBytes.j1])
       | succ kj67 =>
        have H := HA.out
        clear HA
        simp only [incipitlaw19_EditBytes.j1] at H
        by_cases c79 : x84_67 = true
        ·subst c79
         have H1 : (some false) = some r := by rw [if_pos rfl] at H;exact H
         clear H
         have H := H1
         clear H1
         obtain rfl := Option.some.inj H
         exact absurd HRT.out (by decide)
        ·replace c79 := Bool.eq_false_iff.mpr c79
         subst c79
         have H1 : (if ([] : List Int).length + t211.length < 140737488355328 then ((some (([] : List Int) ++ t211 : List Int)).bind fun y235 => (if a2 ≥ 0 then (incipitlaw19_EditBytes.j2 kj67 a2 a3 y235 (decide ((y235.length : Int) > 0))) else (incipitlaw19_EditBytes.j2 kj67 a2 a3 y235 false))) else (none)) = some r := by rw [if_neg (show ¬ (false = true) by decide)] at H;exact H
         clear H
         have H := H1
         clear H1
         by_cases c80 : ([] : List Int).length + t211.length < 140737488355328
         ·rw [if_pos c80] at H
          have LMc80 := Aside0.mk c80
          clear c80
          obtain ⟨y235,hy235⟩ : ∃ y_ : List Int,y_ = (([] : List Int) ++ t211) := ⟨_,rfl⟩
          replace H : (if a2 ≥ 0 then (incipitlaw19_EditBytes.j2 kj67 a2 a3 y235 (decide ((y235.length : Int) > 0))) else (incipitlaw19_EditBytes.j2 kj67 a2 a3 y235 false)) = some r := by first|(rw [hy235];with_reducible exact H)|(have H2_ := (Option.bind_some _ _).symm.trans H;rw [hy235];with_reducible exact H2_)|(have H2_ := (Option.bind_some _ _).symm.trans H;with_reducible exact H2_) | with_reducible exact H|(rw [hy235];exact H)|exact H
          have Ny235 := Aside0.mk hy235
          clear hy235
          have HC81 := Aside0.mk H
          clear H
          go_upto_region 15 with (first|((with_reducible refine gate_builtin (b := .append) (xs := #[.const (.slice none 0 0),.tmp 85]) rfl ?_);(try (refine gate_guard (by rfl) ?_;dsimp only));at_builtin;refine Kd.R_append_rows (Kd.int .u8) (w0 := w) w.heap.size rfl (.const (.slice none 0 0)) (.tmp 85) 28 5 (.int .u8 0) 1 rfl Try.underlying28 info5 rfl (by decide) (by omega) (.slice none 0 0) ([] : List Int) t211 _ _ _ (fun k_ => some k_ ≠ (.slice Ao39 t211.length co39 : Value).ownBlock) (fun _ => False) rfl rfl ?aO ?aR (fun _ _ h => h) (fun _ h => h.elim) ?aF ?aB ?aS ?aL ?_;(case aR => repeat (first|exact (Kd.R_reads' HO_10.out).2.2|(with_reducible refine Kd.C_alloc ?_ _)|(with_reducible refine Kd.C_drewN ?_ _)|(with_reducible refine Kd.C_drew ?_)));(case aB => exact (by repeat (first|(with_reducible first|exact HB.out|apply below_alloc|apply pw_below_drewN|apply below_drew1|refine below_set ?_ GE190.out|refine below_set ?_ GE191.out|refine below_set ?_ GE227.out)|exact HB.out)));(case aF => exact (fun k_ hk => Kd.fresh' (Kd.R_lt (by (with_reducible repeat (first|apply Kd.R_alloc|apply Kd.R_drewN|apply Kd.R_drew));exact HO_10.out)) k_ hk));(case aO => exact ((Kd.R_nil _ _ _ _ (fun k_ => some k_ ≠ (.slice Ao39 t211.length co39 : Value).ownBlock))));(case aS => exact (below_size (by repeat (first|(with_reducible first|exact HB.out|apply below_alloc|apply pw_below_drewN|apply below_drew1|refine below_set ?_ GE190.out|refine below_set ?_ GE191.out|refine below_set ?_ GE227.out)|exact HB.out))));(case aL => have := LMc80.out;omega);intro v236 w82 ho hb hg hat;rw [← Ny235.out] at ho;have n0_ := Aside0.mk (Kd.R_after (Kd.R_apart_nil (by (with_reducible repeat (first|apply Kd.R_alloc|apply Kd.R_drewN|apply Kd.R_drew));exact HO_10.out)) hg hat);have n1_ := Aside0.mk (Kd.R_grown (by (with_reducible repeat (first|apply Kd.R_alloc|apply Kd.R_drewN|apply Kd.R_drew));exact HO_191003.out) hg (fun _ _ => by simp [Value.ownBlock]));have n2_ := Aside0.mk (Kd.V_afterv (Kd.V_apart_nil (by (with_reducible repeat (first|apply Kd.V_alloc|apply Kd.V_drewN|apply Kd.V_drew));exact HO_191004.out)) hg hat);have n3_ := Aside0.mk (Kd.R_grown (by (with_reducible repeat (first|apply Kd.R_alloc|apply Kd.R_drewN|apply Kd.R_drew));exact HO_192003.out) hg (fun _ _ => by simp [Value.ownBlock]));have n4_ := Aside0.mk (Kd.V_afterv (Kd.V_apart_nil (by (with_reducible repeat (first|apply Kd.V_alloc|apply Kd.V_drewN|apply Kd.V_drew));exact HO_192004.out)) hg hat);have n5_ := Aside0.mk (Kd.R_grown (by (with_reducible repeat (first|apply Kd.R_alloc|apply Kd.R_drewN|apply Kd.R_drew));exact HO_228003.out) hg (fun _ _ => by simp [Value.ownBlock]));have n6_ := Aside0.mk (Kd.R_grown (by (with_reducible repeat (first|apply Kd.R_alloc|apply Kd.R_drewN|apply Kd.R_drew));exact HO_228004.out) hg (fun _ _ => by simp [Value.ownBlock]));have n7_ := Aside0.mk (blk_grown (g := gb190) (o := .cells #[.int .i64 t193,.int .i64 t194,.int .i64 t195,.slice Ao23 t196.length co23,.slice Ao25 t199.length co25] 43 (0,0)) (by (with_reducible repeat (first|refine blk_drewN ?_ _|refine blk_drew ?_|refine blk_alloc ?_ _));exact BK190.out) hg (by simp [Value.ownBlock]));have n8_ := Aside0.mk (blk_grown (g := gb191) (o := .cells #[.int .i64 t202,.int .i64 t203,.int .i64 t204,.slice Ao30 t205.length co30,.slice Ao32 t208.length co32] 43 (0,0)) (by (with_reducible repeat (first|refine blk_drewN ?_ _|refine blk_drew ?_|refine blk_alloc ?_ _));exact BK191.out) hg (by simp [Value.ownBlock]));have n9_ := Aside0.mk (blk_grown (g := gb227) (o := .cells #[.int .i64 t217,.int .i64 t218,.int .i64 t219,.slice Ao45 t220.length co45,.slice Ao46 t223.length co46] 43 (0,0)) (by (with_reducible repeat (first|refine blk_drewN ?_ _|refine blk_drew ?_|refine blk_alloc ?_ _));exact BK227.out) hg (by simp [Value.ownBlock]));have n10_ := Aside0.mk (hb);have n11_ := Aside0.mk (ho);clear HO_10;clear HO_191003;clear HO_191004;clear HO_192003;clear HO_192004;clear HO_228003;clear HO_228004;clear BK190;clear BK191;clear BK227;clear HB;have HO_10 := n0_;have HO_191003 := n1_;have HO_191004 := n2_;have HO_192003 := n3_;have HO_192004 := n4_;have HO_228003 := n5_;have HO_228004 := n6_;have BK190 := n7_;have BK191 := n8_;have BK227 := n9_;have HB := n10_;have HO237 := n11_;clear n0_ n1_ n2_ n3_ n4_ n5_ n6_ n7_ n8_ n9_ n10_ n11_;clear ho hb hg hat))
          (try simp only [Act.put,List.setIfInBounds_toArray,List.set_cons_zero,List.set_cons_succ])
          go_cut [93] (fun v93 wc => ∃ (kq : Nat) (x93_80 : Bool),v93 = .bool x93_80 ∧ Aside0 (incipitlaw19_EditBytes.j2 kq a2 a3 y235 x93_80 = some r) ∧ Aside0 (kq ≤ kj67) ∧ Aside0 (Kd.R (Kd.int .u8) 5 wc w.heap.size (fun _ => True) v236 y235) ∧ Aside0 (Kd.R k55 55 wc w.heap.size (fun k_ => some k_ ≠ ((.slice Ao30 t205.length co30) : Value).ownBlock ∧ some k_ ≠ ((.slice Ao45 t220.length co45) : Value).ownBlock) (.slice Ao23 t196.length co23) t196) ∧ Aside0 (Kd.V (Kd.int .i64) 2 wc w.heap.size (fun k_ => some k_ ≠ (v236 : Value).ownBlock ∧ some k_ ≠ ((.slice Ao23 t196.length co23) : Value).ownBlock ∧ some k_ ≠ ((.slice Ao30 t205.length co30) : Value).ownBlock ∧ some k_ ≠ ((.slice Ao45 t220.length co45) : Value).ownBlock ∧ some k_ ≠ ((.slice Ao46 t223.length co46) : Value).ownBlock ∧ k_ ≠ gb190 ∧ k_ ≠ gb191 ∧ k_ ≠ gb227) (.slice Ao25 t199.length co25) t199) ∧ Aside0 (Kd.R k55 55 wc w.heap.size (fun k_ => some k_ ≠ ((.slice Ao23 t196.length co23) : Value).ownBlock ∧ some k_ ≠ ((.slice Ao45 t220.length co45) : Value).ownBlock) (.slice Ao30 t205.length co30) t205) ∧ Aside0 (Kd.V (Kd.int .i64) 2 wc w.heap.size (fun k_ => some k_ ≠ (v236 : Value).ownBlock ∧ some k_ ≠ ((.slice Ao23 t196.length co23) : Value).ownBlock ∧ some k_ ≠ ((.slice Ao30 t205.length co30) : Value).ownBlock ∧ some k_ ≠ ((.slice Ao45 t220.length co45) : Value).ownBlock ∧ some k_ ≠ ((.slice Ao46 t223.length co46) : Value).ownBlock ∧ k_ ≠ gb190 ∧ k_ ≠ gb191 ∧ k_ ≠ gb227) (.slice Ao32 t208.length co32) t208) ∧ Aside0 (Kd.R k55 55 wc w.heap.size (fun k_ => some k_ ≠ ((.slice Ao23 t196.length co23) : Value).ownBlock ∧ some k_ ≠ ((.slice Ao30 t205.length co30) : Value).ownBlock) (.slice Ao45 t220.length co45) t220) ∧ Aside0 (Kd.R (Kd.int .i64) 2 wc w.heap.size (fun _ => True) (.slice Ao46 t223.length co46) t223) ∧ Aside0 (wc.heap[gb190]? = some (.cells #[.int .i64 t193,.int .i64 t194,.int .i64 t195,(.slice Ao23 t196.length co23),(.slice Ao25 t199.length co25)] 43 (0,0))) ∧ Aside0 (wc.heap[gb191]? = some (.cells #[.int .i64 t202,.int .i64 t203,.int .i64 t204,(.slice Ao30 t205.length co30),(.slice Ao32 t208.length co32)] 43 (0,0))) ∧ Aside0 (wc.heap[gb227]? = some (.cells #[.int .i64 t217,.int .i64 t218,.int .i64 t219,(.slice Ao45 t220.length co45),(.slice Ao46 t223.length co46)] 43 (0,0))) ∧ Aside0 (Below w.heap.size w wc))
          case first =>
           have H := HC81.out
           clear HC81
           by_cases c83 : a2 ≥ 0
           ·rw [if_pos c83] at H
            have c83b0 : decide (0 ≤ a2) = true := decide_eq_true c83
            clear c83
            (first | rw [c83b0]|(simp only [i64_w,i32_w];rw [c83b0]) | skip)
            have H' := Aside0.mk H
            clear H
            obtain ⟨Ao84,co84,eo84⟩ := Kd.R_slice HO237.out
            subst eo84
            go_wp2
            go_meet
            case rel => exact ⟨_,(decide ((y235.length : Int) > 0)),(by first | rfl|(simp;done)|(simp [*];done)),H',⟨by have := HJ12.out;have := HJ67.out;first | omega|exact Nat.le_refl _⟩,⟨by (with_reducible repeat (first|apply Kd.R_alloc|apply Kd.R_drewN|apply Kd.R_drew));exact Kd.R_mono HO237.out (fun _ hk => trivial)⟩,⟨by (with_reducible repeat (first|apply Kd.R_alloc|apply Kd.R_drewN|apply Kd.R_drew));exact HO_191003.out⟩,⟨by (with_reducible repeat (first|apply Kd.V_alloc|apply Kd.V_drewN|apply Kd.V_drew));exact Kd.V_mono HO_191004.out (fun _ hk => ⟨hk.2,⟨hk.1.2.1,⟨hk.1.2.2.1,⟨hk.1.2.2.2.1,⟨hk.1.2.2.2.2.1,⟨hk.1.2.2.2.2.2.1,⟨hk.1.2.2.2.2.2.2.1,hk.1.2.2.2.2.2.2.2⟩⟩⟩⟩⟩⟩⟩)⟩,⟨by (with_reducible repeat (first|apply Kd.R_alloc|apply Kd.R_drewN|apply Kd.R_drew));exact HO_192003.out⟩,⟨by (with_reducible repeat (first|apply Kd.V_alloc|apply Kd.V_drewN|apply Kd.V_drew));exact Kd.V_mono HO_192004.out (fun _ hk => ⟨hk.2,⟨hk.1.2.1,⟨hk.1.2.2.1,⟨hk.1.2.2.2.1,⟨hk.1.2.2.2.2.1,⟨hk.1.2.2.2.2.2.1,⟨hk.1.2.2.2.2.2.2.1,hk.1.2.2.2.2.2.2.2⟩⟩⟩⟩⟩⟩⟩)⟩,⟨by (with_reducible repeat (first|apply Kd.R_alloc|apply Kd.R_drewN|apply Kd.R_drew));exact HO_228003.out⟩,⟨by (with_reducible repeat (first|apply Kd.R_alloc|apply Kd.R_drewN|apply Kd.R_drew));exact HO_228004.out⟩,⟨by (with_reducible repeat (first|refine blk_drewN ?_ _|refine blk_drew ?_|refine blk_alloc ?_ _));exact BK190.out⟩,⟨by (with_reducible repeat (first|refine blk_drewN ?_ _|refine blk_drew ?_|refine blk_alloc ?_ _));exact BK191.out⟩,⟨by (with_reducible repeat (first|refine blk_drewN ?_ _|refine blk_drew ?_|refine blk_alloc ?_ _));exact BK227.out⟩,⟨by repeat (first|(with_reducible first|exact HB.out|apply below_alloc|apply pw_below_drewN|apply below_drew1|refine below_set ?_ GE190.out|refine below_set ?_ GE191.out|refine below_set ?_ GE227.out)|exact HB.out)⟩⟩
           ·rw [if_neg c83] at H
            have c83b0 : decide (0 ≤ a2) = false := decide_eq_false c83
            clear c83
            (first | rw [c83b0]|(simp only [i64_w,i32_w];rw [c83b0]) | skip)
            have H' := Aside0.mk H
            clear H
            go_wp2
            go_meet
            case rel => exact ⟨_,(false),(by first | rfl|(simp;done)|(simp [*];done)),H',⟨by have := HJ12.out;have := HJ67.out;first | omega|exact Nat.le_refl _⟩,⟨by (with_reducible repeat (first|apply Kd.R_alloc|apply Kd.R_drewN|apply Kd.R_drew));exact Kd.R_mono HO237.out (fun _ hk => trivial)⟩,⟨by (with_reducible repeat (first|apply Kd.R_alloc|apply Kd.R_drewN|apply Kd.R_drew));exact HO_191003.out⟩,⟨by (with_reducible repeat (first|apply Kd.V_alloc|apply Kd.V_drewN|apply Kd.V_drew));exact Kd.V_mono HO_191004.out (fun _ hk => ⟨hk.2,⟨hk.1.2.1,⟨hk.1.2.2.1,⟨hk.1.2.2.2.1,⟨hk.1.2.2.2.2.1,⟨hk.1.2.2.2.2.2.1,⟨hk.1.2.2.2.2.2.2.1,hk.1.2.2.2.2.2.2.2⟩⟩⟩⟩⟩⟩⟩)⟩,⟨by (with_reducible repeat (first|apply Kd.R_alloc|apply Kd.R_drewN|apply Kd.R_drew));exact HO_192003.out⟩,⟨by (with_reducible repeat (first|apply Kd.V_alloc|apply Kd.V_drewN|apply Kd.V_drew));exact Kd.V_mono HO_192004.out (fun _ hk => ⟨hk.2,⟨hk.1.2.1,⟨hk.1.2.2.1,⟨hk.1.2.2.2.1,⟨hk.1.2.2.2.2.1,⟨hk.1.2.2.2.2.2.1,⟨hk.1.2.2.2.2.2.2.1,hk.1.2.2.2.2.2.2.2⟩⟩⟩⟩⟩⟩⟩)⟩,⟨by (with_reducible repeat (first|apply Kd.R_alloc|apply Kd.R_drewN|apply Kd.R_drew));exact HO_228003.out⟩,⟨by (with_reducible repeat (first|apply Kd.R_alloc|apply Kd.R_drewN|apply Kd.R_drew));exact HO_228004.out⟩,⟨by (with_reducible repeat (first|refine blk_drewN ?_ _|refine blk_drew ?_|refine blk_alloc ?_ _));exact BK190.out⟩,⟨by (with_reducible repeat (first|refine blk_drewN ?_ _|refine blk_drew ?_|refine blk_alloc ?_ _));exact BK191.out⟩,⟨by (with_reducible repeat (first|refine blk_drewN ?_ _|refine blk_drew ?_|refine blk_alloc ?_ _));exact BK227.out⟩,⟨by repeat (first|(with_reducible first|exact HB.out|apply below_alloc|apply pw_below_drewN|apply below_drew1|refine below_set ?_ GE190.out|refine below_set ?_ GE191.out|refine below_set ?_ GE227.out)|exact HB.out)⟩⟩
          case rest =>
           clear HC81
           try clear c1
           try clear c2
           try clear p2
           try clear c3
           try clear c4
           try clear c6
           try clear c7
           try clear c8
           try clear c25
           try clear c29
           try clear c66
           try clear c69
           try clear c70
           try clear c73
           try clear c73b0
           try clear c73b1
           try clear c79
           try clear c80
           try clear c83
           try clear c83b0
           try clear hcz71_0
           try clear hcz71_1
           try clear hcz71_2
           try clear hcz71_3
           try clear hcz71_4
           try clear hfz71_0
           try clear hfz71_1
           try clear hfz71_2
           try clear hfz71_3
           try clear hfz71_4
           try clear p2
           obtain ⟨kq,x93_80,rfl,HA,HJ80,HO_15,HO_191003,HO_191004,HO_192003,HO_192004,HO_228003,HO_228004,BK190,BK191,BK227,HB⟩ := hcut
           cases kq with
           | zero => exact absurd HA.out (by simp [incipitlaw19_EditBytes.j2])
           | succ kj80 =>
            have H := HA.out
            clear HA
            simp only [incipitlaw19_EditBytes.j2] at H
            have HC85 := Aside0.mk H
            clear H
            go_upto_if 93 with (fail)
            go_cut [] (fun wc => ∃ (kq : Nat) (x15_84 : List Int),Aside0 (incipitlaw19_EditBytes.j3 kq x15_84 = some r) ∧ Aside0 (kq ≤ kj80) ∧ Aside0 (Kd.R (Kd.int .u8) 5 wc w.heap.size (fun _ => True) v236 x15_84) ∧ Aside0 (Kd.R k55 55 wc w.heap.size (fun k_ => some k_ ≠ ((.slice Ao30 t205.length co30) : Value).ownBlock ∧ some k_ ≠ ((.slice Ao45 t220.length co45) : Value).ownBlock) (.slice Ao23 t196.length co23) t196) ∧ Aside0 (Kd.V (Kd.int .i64) 2 wc w.heap.size (fun k_ => some k_ ≠ (v236 : Value).ownBlock ∧ some k_ ≠ ((.slice Ao23 t196.length co23) : Value).ownBlock ∧ some k_ ≠ ((.slice Ao30 t205.length co30) : Value).ownBlock ∧ some k_ ≠ ((.slice Ao45 t220.length co45) : Value).ownBlock ∧ some k_ ≠ ((.slice Ao46 t223.length co46) : Value).ownBlock ∧ k_ ≠ gb190 ∧ k_ ≠ gb191 ∧ k_ ≠ gb227) (.slice Ao25 t199.length co25) t199) ∧ Aside0 (Kd.R k55 55 wc w.heap.size (fun k_ => some k_ ≠ ((.slice Ao23 t196.length co23) : Value).ownBlock ∧ some k_ ≠ ((.slice Ao45 t220.length co45) : Value).ownBlock) (.slice Ao30 t205.length co30) t205) ∧ Aside0 (Kd.V (Kd.int .i64) 2 wc w.heap.size (fun k_ => some k_ ≠ (v236 : Value).ownBlock ∧ some k_ ≠ ((.slice Ao23 t196.length co23) : Value).ownBlock ∧ some k_ ≠ ((.slice Ao30 t205.length co30) : Value).ownBlock ∧ some k_ ≠ ((.slice Ao45 t220.length co45) : Value).ownBlock ∧ some k_ ≠ ((.slice Ao46 t223.length co46) : Value).ownBlock ∧ k_ ≠ gb190 ∧ k_ ≠ gb191 ∧ k_ ≠ gb227) (.slice Ao32 t208.length co32) t208) ∧ Aside0 (Kd.R k55 55 wc w.heap.size (fun k_ => some k_ ≠ ((.slice Ao23 t196.length co23) : Value).ownBlock ∧ some k_ ≠ ((.slice Ao30 t205.length co30) : Value).ownBlock) (.slice Ao45 t220.length co45) t220) ∧ Aside0 (Kd.R (Kd.int .i64) 2 wc w.heap.size (fun _ => True) (.slice Ao46 t223.length co46) t223) ∧ Aside0 (wc.heap[gb190]? = some (.cells #[.int .i64 t193,.int .i64 t194,.int .i64 t195,(.slice Ao23 t196.length co23),(.slice Ao25 t199.length co25)] 43 (0,0))) ∧ Aside0 (wc.heap[gb191]? = some (.cells #[.int .i64 t202,.int .i64 t203,.int .i64 t204,(.slice Ao30 t205.length co30),(.slice Ao32 t208.length co32)] 43 (0,0))) ∧ Aside0 (wc.heap[gb227]? = some (.cells #[.int .i64 t217,.int .i64 t218,.int .i64 t219,(.slice Ao45 t220.length co45),(.slice Ao46 t223.length co46)] 43 (0,0))) ∧ Aside0 (Below w.heap.size w wc))
            case first =>
             have H := HC85.out
             clear HC85
             by_cases c86 : x93_80 = true
             ·subst c86
              have H1 : (if (y235.length : Int) = 0 then (none) else (if 0 ≤ (Int.tmod a2 (y235.length : Int)) then (if (Int.tmod a2 (y235.length : Int)) < (y235.length : Int) then (incipitlaw19_EditBytes.j3 kj80 (y235.set ((Int.tmod a2 (y235.length : Int)) : Int).toNat (Go.bits .xor .u8 (rd y235 (Int.tmod a2 (y235.length : Int))) a3))) else (none)) else (none))) = some r := by rw [if_pos rfl] at H;exact H
              clear H
              have H := H1
              clear H1
              by_cases c87 : (y235.length : Int) = 0
              ·rw [if_pos c87] at H
               exact absurd H (by simp)
              ·rw [if_neg c87] at H
               have c87b0 : ((y235.length : Int) == 0) = false := beq_eq_false_iff_ne.mpr c87
               have c87b1 : ((y235.length : Int) != 0) = true := bne_iff_ne.mpr c87
               have c87b2 : ¬ (y235 = []) := fun h_ => c87 (by rw [h_];rfl)
               (first | rw [c87b0]|(simp only [i64_w,i32_w];rw [c87b0]) | skip)
               obtain ⟨ji88,hji88⟩ : ∃ j_ : Int,(Int.tmod a2 (y235.length : Int)) = j_ := ⟨_,rfl⟩
               replace H : (if 0 ≤ (ji88) then (if (ji88) < (y235.length : Int) then (incipitlaw19_EditBytes.j3 kj80 (y235.set ((ji88) : Int).toNat (Go.bits .xor .u8 (rd y235 (ji88)) a3))) else (none)) else (none)) = some r := by first|(rw [hji88] at H;exact H)|(simp only [hji88] at H ⊢;exact H)
               by_cases c89 : 0 ≤ (ji88)
               ·rw [if_pos c89] at H
                have c89b0 : decide (0 ≤ (ji88)) = true := decide_eq_true c89
                clear c89
                by_cases c90 : (ji88) < (y235.length : Int)
                ·rw [if_pos c90] at H
                 have c90b0 : decide ((ji88) < (y235.length : Int)) = true := decide_eq_true c90
                 clear c90
                 obtain ⟨y239,hy239⟩ : ∃ y_ : List Int,y_ = (y235.set ((ji88) : Int).toNat (Go.bits .xor .u8 (rd y235 (ji88)) a3)) := ⟨_,rfl⟩
                 replace H : (incipitlaw19_EditBytes.j3 kj80 y239) = some r := by first|(rw [hy239];with_reducible exact H)|(have H2_ := (Option.bind_some _ _).symm.trans H;rw [hy239];with_reducible exact H2_)|(have H2_ := (Option.bind_some _ _).symm.trans H;with_reducible exact H2_) | with_reducible exact H|(rw [hy239];exact H)|exact H
                 have Ny239 := Aside0.mk hy239
                 clear hy239
                 have H' := Aside0.mk H
                 clear H
                 obtain ⟨Ao92,co92,eo92⟩ := Kd.R_slice HO_15.out
                 subst eo92
                 have p238 : 0 ≤ ((ji88) : Int) := of_decide_eq_true (by first|(with_reducible assumption) | assumption)
                 have q238 : (ji88) < (y235.length : Int) := of_decide_eq_true (by first|(with_reducible assumption) | assumption)
                 obtain ⟨ad238,e238,hx238_0⟩ := Kd.at_int (Kd.R_reads' HO_15.out).2.2 (ji88) p238 q238
                 cases e238
                 replace p238 := eq_true p238
                 replace q238 := eq_true q238
                 have p91 : 0 ≤ ((ji88) : Int) := of_decide_eq_true (by first|(with_reducible assumption) | assumption)
                 have q91 : ((ji88) : Int) < ((y235.length : Int) : Int) := of_decide_eq_true (by first|(with_reducible assumption) | assumption)
                 obtain ⟨go91,co91,eo91,gb91,gl91,cl91,HG91⟩ := Kd.R_form HO_15.out (by omega)
                 (first | cases eo91|(injection eo91 with ea_ en_ ec_;(first | subst ea_|(injection ea_ with ea_;subst ea_));subst ec_;clear en_))
                 have GB91 := Aside0.mk gb91
                 have GG91 := Aside0.mk HG91
                 clear gb91 gl91 HG91
                 (first | simp only [add_plain] at hx238_0 | skip)
                 obtain ⟨hx91_0,hf91_0⟩ := Kd.R_celln 0 HO_15.out ((ji88) : Int) p91 q91
                 replace p91 := eq_true p91
                 replace q91 := eq_true q91
                 have HP93 := Kd.R_putg HO_15.out ((ji88) : Int) (Go.bits .xor .u8 (rd y235 (ji88)) a3)
                 go_wp2_with (first|((with_reducible refine gate_store (t := 5) (p := 103) rfl ?_);refine store_event (t := 5) (p := 103) (v := ?vo_w94) (w1 := (wc.setCell ⟨go91,((ji88) : Int).toNat,none⟩ (.int .u8 (Go.bits .xor .u8 (rd y235 (ji88)) a3)))) ?hg ?ho ?hn ?hr ?_;(case ho => rfl);(case hg => rfl);(case hn => rfl);(case hr => first|(go_simp;done)|(go_simp;rfl));intro w94 hw;have hg : wc.grownBy w94 (some go91) := (by rw [hw];exact HP93.2);have hp_ : Kd.R (Kd.int .u8) 5 w94 w.heap.size (fun _ => True) (.slice (some ⟨go91,0,none⟩) y235.length co92) y239 := (by rw [hw,Ny239.out];exact HP93.1);clear HP93;have n0_ := Aside0.mk (hp_);have n1_ := Aside0.mk (Kd.R_over' (v := (.slice (some ⟨go91,0,none⟩) y235.length co92)) (by (with_reducible repeat (first|apply Kd.R_alloc|apply Kd.R_drewN|apply Kd.R_drew));exact HO_191003.out) (Kd.R_typed HO_15.out) (by decide) hg);have n2_ := Aside0.mk (Kd.V_afterv (v := (.slice (some ⟨go91,0,none⟩) y235.length co92)) (v1 := (.slice (some ⟨go91,0,none⟩) y235.length co92)) (ok := (fun k_ => some k_ ≠ (.slice Ao23 t196.length co23 : Value).ownBlock ∧ some k_ ≠ (.slice Ao30 t205.length co30 : Value).ownBlock ∧ some k_ ≠ (.slice Ao45 t220.length co45 : Value).ownBlock ∧ some k_ ≠ (.slice Ao46 t223.length co46 : Value).ownBlock ∧ k_ ≠ gb190 ∧ k_ ≠ gb191 ∧ k_ ≠ gb227)) (by (with_reducible repeat (first|apply Kd.V_alloc|apply Kd.V_drewN|apply Kd.V_drew));exact Kd.V_mono HO_191004.out (fun _ hk => ⟨⟨hk.2.1,⟨hk.2.2.1,⟨hk.2.2.2.1,⟨hk.2.2.2.2.1,⟨hk.2.2.2.2.2.1,⟨hk.2.2.2.2.2.2.1,hk.2.2.2.2.2.2.2⟩⟩⟩⟩⟩⟩,hk.1⟩)) hg (.inl rfl));have n3_ := Aside0.mk (Kd.R_over' (v := (.slice (some ⟨go91,0,none⟩) y235.length co92)) (by (with_reducible repeat (first|apply Kd.R_alloc|apply Kd.R_drewN|apply Kd.R_drew));exact HO_192003.out) (Kd.R_typed HO_15.out) (by decide) hg);have n4_ := Aside0.mk (Kd.V_afterv (v := (.slice (some ⟨go91,0,none⟩) y235.length co92)) (v1 := (.slice (some ⟨go91,0,none⟩) y235.length co92)) (ok := (fun k_ => some k_ ≠ (.slice Ao23 t196.length co23 : Value).ownBlock ∧ some k_ ≠ (.slice Ao30 t205.length co30 : Value).ownBlock ∧ some k_ ≠ (.slice Ao45 t220.length co45 : Value).ownBlock ∧ some k_ ≠ (.slice Ao46 t223.length co46 : Value).ownBlock ∧ k_ ≠ gb190 ∧ k_ ≠ gb191 ∧ k_ ≠ gb227)) (by (with_reducible repeat (first|apply Kd.V_alloc|apply Kd.V_drewN|apply Kd.V_drew));exact Kd.V_mono HO_192004.out (fun _ hk => ⟨⟨hk.2.1,⟨hk.2.2.1,⟨hk.2.2.2.1,⟨hk.2.2.2.2.1,⟨hk.2.2.2.2.2.1,⟨hk.2.2.2.2.2.2.1,hk.2.2.2.2.2.2.2⟩⟩⟩⟩⟩⟩,hk.1⟩)) hg (.inl rfl));have n5_ := Aside0.mk (Kd.R_over' (v := (.slice (some ⟨go91,0,none⟩) y235.length co92)) (by (with_reducible repeat (first|apply Kd.R_alloc|apply Kd.R_drewN|apply Kd.R_drew));exact HO_228003.out) (Kd.R_typed HO_15.out) (by decide) hg);have n6_ := Aside0.mk (Kd.R_over' (v := (.slice (some ⟨go91,0,none⟩) y235.length co92)) (by (with_reducible repeat (first|apply Kd.R_alloc|apply Kd.R_drewN|apply Kd.R_drew));exact HO_228004.out) (Kd.R_typed HO_15.out) (by decide) hg);have n7_ := Aside0.mk (blk_grown (g := gb190) (o := .cells #[.int .i64 t193,.int .i64 t194,.int .i64 t195,.slice Ao23 t196.length co23,.slice Ao25 t199.length co25] 43 (0,0)) (by (with_reducible repeat (first|refine blk_drewN ?_ _|refine blk_drew ?_|refine blk_alloc ?_ _));exact BK190.out) hg (Kd.R_ne HO_15.out BK190.out (by decide)));have n8_ := Aside0.mk (blk_grown (g := gb191) (o := .cells #[.int .i64 t202,.int .i64 t203,.int .i64 t204,.slice Ao30 t205.length co30,.slice Ao32 t208.length co32] 43 (0,0)) (by (with_reducible repeat (first|refine blk_drewN ?_ _|refine blk_drew ?_|refine blk_alloc ?_ _));exact BK191.out) hg (Kd.R_ne HO_15.out BK191.out (by decide)));have n9_ := Aside0.mk (blk_grown (g := gb227) (o := .cells #[.int .i64 t217,.int .i64 t218,.int .i64 t219,.slice Ao45 t220.length co45,.slice Ao46 t223.length co46] 43 (0,0)) (by (with_reducible repeat (first|refine blk_drewN ?_ _|refine blk_drew ?_|refine blk_alloc ?_ _));exact BK227.out) hg (Kd.R_ne HO_15.out BK227.out (by decide)));have n10_ := Aside0.mk ((by rw [hw];exact below_set (HB.out) GB91.out : Below w.heap.size w w94));clear HO_15;clear HO_191003;clear HO_191004;clear HO_192003;clear HO_192004;clear HO_228003;clear HO_228004;clear BK190;clear BK191;clear BK227;clear HB;have HO_15 := n0_;have HO_191003 := n1_;have HO_191004 := n2_;have HO_192003 := n3_;have HO_192004 := n4_;have HO_228003 := n5_;have HO_228004 := n6_;have BK190 := n7_;have BK191 := n8_;have BK227 := n9_;have HB := n10_;clear n0_ n1_ n2_ n3_ n4_ n5_ n6_ n7_ n8_ n9_ n10_;clear hg hw hp_))
                 go_meet
                 case rel => exact ⟨_,(y239),H',⟨by have := HJ12.out;have := HJ67.out;have := HJ80.out;first | omega|exact Nat.le_refl _⟩,⟨by (with_reducible repeat (first|apply Kd.R_alloc|apply Kd.R_drewN|apply Kd.R_drew));exact HO_15.out⟩,⟨by (with_reducible repeat (first|apply Kd.R_alloc|apply Kd.R_drewN|apply Kd.R_drew));exact HO_191003.out⟩,⟨by (with_reducible repeat (first|apply Kd.V_alloc|apply Kd.V_drewN|apply Kd.V_drew));exact Kd.V_mono HO_191004.out (fun _ hk => ⟨hk.2,⟨hk.1.1,⟨hk.1.2.1,⟨hk.1.2.2.1,⟨hk.1.2.2.2.1,⟨hk.1.2.2.2.2.1,⟨hk.1.2.2.2.2.2.1,hk.1.2.2.2.2.2.2⟩⟩⟩⟩⟩⟩⟩)⟩,⟨by (with_reducible repeat (first|apply Kd.R_alloc|apply Kd.R_drewN|apply Kd.R_drew));exact HO_192003.out⟩,⟨by (with_reducible repeat (first|apply Kd.V_alloc|apply Kd.V_drewN|apply Kd.V_drew));exact Kd.V_mono HO_192004.out (fun _ hk => ⟨hk.2,⟨hk.1.1,⟨hk.1.2.1,⟨hk.1.2.2.1,⟨hk.1.2.2.2.1,⟨hk.1.2.2.2.2.1,⟨hk.1.2.2.2.2.2.1,hk.1.2.2.2.2.2.2⟩⟩⟩⟩⟩⟩⟩)⟩,⟨by (with_reducible repeat (first|apply Kd.R_alloc|apply Kd.R_drewN|apply Kd.R_drew));exact HO_228003.out⟩,⟨by (with_reducible repeat (first|apply Kd.R_alloc|apply Kd.R_drewN|apply Kd.R_drew));exact HO_228004.out⟩,⟨by (with_reducible repeat (first|refine blk_drewN ?_ _|refine blk_drew ?_|refine blk_alloc ?_ _));exact BK190.out⟩,⟨by (with_reducible repeat (first|refine blk_drewN ?_ _|refine blk_drew ?_|refine blk_alloc ?_ _));exact BK191.out⟩,⟨by (with_reducible repeat (first|refine blk_drewN ?_ _|refine blk_drew ?_|refine blk_alloc ?_ _));exact BK227.out⟩,⟨by repeat (first|(with_reducible first|exact HB.out|apply below_alloc|apply pw_below_drewN|apply below_drew1|refine below_set ?_ GE190.out|refine below_set ?_ GE191.out|refine below_set ?_ GE227.out)|exact HB.out)⟩⟩
                ·rw [if_neg c90] at H
                 exact absurd H (by simp)
               ·rw [if_neg c89] at H
                exact absurd H (by simp)
             ·replace c86 := Bool.eq_false_iff.mpr c86
              subst c86
              have H1 : (incipitlaw19_EditBytes.j3 kj80 y235) = some r := by rw [if_neg (show ¬ (false = true) by decide)] at H;exact H
              clear H
              have H := H1
              clear H1
              have H' := Aside0.mk H
              clear H
              go_wp2
              go_meet
              case rel => exact ⟨_,(y235),H',⟨by have := HJ12.out;have := HJ67.out;have := HJ80.out;first | omega|exact Nat.le_refl _⟩,⟨by (with_reducible repeat (first|apply Kd.R_alloc|apply Kd.R_drewN|apply Kd.R_drew));exact HO_15.out⟩,⟨by (with_reducible repeat (first|apply Kd.R_alloc|apply Kd.R_drewN|apply Kd.R_drew));exact HO_191003.out⟩,⟨by (with_reducible repeat (first|apply Kd.V_alloc|apply Kd.V_drewN|apply Kd.V_drew));exact HO_191004.out⟩,⟨by (with_reducible repeat (first|apply Kd.R_alloc|apply Kd.R_drewN|apply Kd.R_drew));exact HO_192003.out⟩,⟨by (with_reducible repeat (first|apply Kd.V_alloc|apply Kd.V_drewN|apply Kd.V_drew));exact HO_192004.out⟩,⟨by (with_reducible repeat (first|apply Kd.R_alloc|apply Kd.R_drewN|apply Kd.R_drew));exact HO_228003.out⟩,⟨by (with_reducible repeat (first|apply Kd.R_alloc|apply Kd.R_drewN|apply Kd.R_drew));exact HO_228004.out⟩,⟨by (with_reducible repeat (first|refine blk_drewN ?_ _|refine blk_drew ?_|refine blk_alloc ?_ _));exact BK190.out⟩,⟨by (with_reducible repeat (first|refine blk_drewN ?_ _|refine blk_drew ?_|refine blk_alloc ?_ _));exact BK191.out⟩,⟨by (with_reducible repeat (first|refine blk_drewN ?_ _|refine blk_drew ?_|refine blk_alloc ?_ _));exact BK227.out⟩,⟨by repeat (first|(with_reducible first|exact HB.out|apply below_alloc|apply pw_below_drewN|apply below_drew1|refine below_set ?_ GE190.out|refine below_set ?_ GE191.out|refine below_set ?_ GE227.out)|exact HB.out)⟩⟩
            case rest =>
             clear HC85
             try clear c1
             try clear c2
             try clear p2
             try clear q2
             try clear hx2
             try clear c3
             try clear c4
             try clear c6
             try clear c7
             try clear c8
             try clear c9
             try clear p9
             try clear q9
             try clear hx9
             try clear hf9
             try clear p23
             try clear q23
             try clear hx23
             try clear c25
             try clear c29
             try clear c66
             try clear c69
             try clear c70
             try clear c73
             try clear c73b0
             try clear c73b1
             try clear c79
             try clear c80
             try clear c83
             try clear c83b0
             try clear c86
             try clear c87
             try clear c87b0
             try clear c87b1
             try clear c87b2
             try clear c89
             try clear c89b0
             try clear c90
             try clear c90b0
             try clear p91
             try clear q91
             try clear hx91
             try clear hf91
             try clear hcz71_0
             try clear hcz71_1
             try clear hcz71_2
             try clear hcz71_3
             try clear hcz71_4
             try clear hfz71_0
             try clear hfz71_1
             try clear hfz71_2
             try clear hfz71_3
             try clear hfz71_4
             try clear hx238_0
             try clear hx91_0
             try clear p2
             try clear p238
             try clear p91
             try clear q238
             try clear q91
             obtain ⟨kq,x15_84,HA,HJ84,HO_15,HO_191003,HO_191004,HO_192003,HO_192004,HO_228003,HO_228004,BK190,BK191,BK227,HB⟩ := hcut
             cases kq with
             | zero => exact absurd HA.out (by simp [incipitlaw19_EditBytes.j3])
             | succ kj84 =>
              have H := HA.out
              clear HA
              simp only [incipitlaw19_EditBytes.j3] at H
              replace H := Option.bind_eq_some_iff.mp H
              obtain ⟨⟨t240,t241,t242,t243,t246,t249⟩,A950,H⟩ := H
              replace H : (if t249 = 0 then ((edit_Encode.f kj84 t240 t241 t242 t243 t246).bind fun bt251 => (if bt251.2 = 0 then (some ((strOfNums bt251.1).toList == (strOfNums x15_84).toList)) else (some false))) else (if t249 = 8 then (if t240 = 0 then (some ((t243.length : Int) == 0)) else (some false)) else (some false))) = some r := H
              have A95 := Aside0.mk A950
              clear A950
              by_cases c96 : t249 = 0
              ·rw [if_pos c96] at H
               have c96b0 : (t249 == 0) = true := beq_iff_eq.mpr c96
               have c96b1 : (t249 != 0) = false := bne_eq_false_iff_eq.mpr c96
               clear c96
               replace H := Option.bind_eq_some_iff.mp H
               obtain ⟨⟨t251,t254⟩,A970,H⟩ := H
               replace H : (if t254 = 0 then (some ((strOfNums t251).toList == (strOfNums x15_84).toList)) else (some false)) = some r := H
               have A97 := Aside0.mk A970
               clear A970
               by_cases c98 : t254 = 0
               ·rw [if_pos c98] at H
                have c98b0 : (t254 == 0) = true := beq_iff_eq.mpr c98
                have c98b1 : (t254 != 0) = false := bne_eq_false_iff_eq.mpr c98
                clear c98
                obtain rfl := Option.some.inj H
                simp only [Option.some.injEq,Prod.mk.injEq] at H
                obtain ⟨rfl⟩ := H
                obtain ⟨Ao99,co99,eo99⟩ := Kd.R_slice HO_15.out
                subst eo99
                go_wp2_with (first|((with_reducible refine gate_callee (f := 28) rfl ?_);refine goesL_ (some 106) rfl rfl Try.func28 (by kernel_rfl) rfl #[.slice Ao99 x15_84.length co99] rfl (by (try simp only [List.map_toArray,List.map_cons,List.map_nil]);first | done | rfl|(simp only [List.length_drop,List.length_take];rfl)) ?_;(with_reducible refine (edit_Decode.calls kj84 _ _ x15_84 t240 t241 t242 t243 t246 t249 _ ?side1 ?side2 A95.out).mono ?_);(case side1 => repeat (first|exact (Kd.R_reads' HO_15.out).2.2|(with_reducible refine Kd.C_alloc ?_ _)|(with_reducible refine Kd.C_drewN ?_ _)|(with_reducible refine Kd.C_drew ?_)));(case side2 => exact (Kd.R_reads' HO_15.out).2.1);rintro e w100 ⟨v244,v247,rfl,ho0,ho1,hb⟩;refine ⟨_,rfl,?_⟩;have n0_ := Aside0.mk (Kd.R_below (by (with_reducible repeat (first|apply Kd.R_alloc|apply Kd.R_drewN|apply Kd.R_drew));exact HO_15.out) hb);have n1_ := Aside0.mk (Kd.R_elder' (by (with_reducible repeat (first|apply Kd.R_alloc|apply Kd.R_drewN|apply Kd.R_drew));exact HO_191003.out) (Kd.R_base ho0) hb);have n2_ := Aside0.mk (Kd.V_mono (Kd.V_told (Kd.V_told (Kd.V_old (by (with_reducible repeat (first|apply Kd.V_alloc|apply Kd.V_drewN|apply Kd.V_drew));exact HO_191004.out) hb) (Kd.R_base ho0)) (Kd.R_base ho1)) (fun _ h_ => h_.1));have n3_ := Aside0.mk (Kd.R_elder' (by (with_reducible repeat (first|apply Kd.R_alloc|apply Kd.R_drewN|apply Kd.R_drew));exact HO_192003.out) (Kd.R_base ho0) hb);have n4_ := Aside0.mk (Kd.V_mono (Kd.V_told (Kd.V_told (Kd.V_old (by (with_reducible repeat (first|apply Kd.V_alloc|apply Kd.V_drewN|apply Kd.V_drew));exact HO_192004.out) hb) (Kd.R_base ho0)) (Kd.R_base ho1)) (fun _ h_ => h_.1));have n5_ := Aside0.mk (Kd.R_elder' (by (with_reducible repeat (first|apply Kd.R_alloc|apply Kd.R_drewN|apply Kd.R_drew));exact HO_228003.out) (Kd.R_base ho0) hb);have n6_ := Aside0.mk (Kd.R_elder' (by (with_reducible repeat (first|apply Kd.R_alloc|apply Kd.R_drewN|apply Kd.R_drew));exact HO_228004.out) (Kd.R_base ho1) hb);have n7_ := Aside0.mk (Kd.R_lower (Kd.R_new' (Kd.R_new' (Kd.R_new' ho0 (Kd.R_lt (by (with_reducible repeat (first|apply Kd.R_alloc|apply Kd.R_drewN|apply Kd.R_drew));exact HO_191003.out))) (Kd.R_lt (by (with_reducible repeat (first|apply Kd.R_alloc|apply Kd.R_drewN|apply Kd.R_drew));exact HO_192003.out))) (Kd.R_lt (by (with_reducible repeat (first|apply Kd.R_alloc|apply Kd.R_drewN|apply Kd.R_drew));exact HO_228003.out))) (below_size (by repeat (first|(with_reducible first|exact HB.out|apply below_alloc|apply pw_below_drewN|apply below_drew1|refine below_set ?_ GE190.out|refine below_set ?_ GE191.out|refine below_set ?_ GE227.out)|exact HB.out))));have n8_ := Aside0.mk (Kd.R_lower (Kd.R_new' ho1 (Kd.R_lt (by (with_reducible repeat (first|apply Kd.R_alloc|apply Kd.R_drewN|apply Kd.R_drew));exact HO_228004.out))) (below_size (by repeat (first|(with_reducible first|exact HB.out|apply below_alloc|apply pw_below_drewN|apply below_drew1|refine below_set ?_ GE190.out|refine below_set ?_ GE191.out|refine below_set ?_ GE227.out)|exact HB.out))));have n9_ := Aside0.mk (blk_below (g := gb190) (o := .cells #[.int .i64 t193,.int .i64 t194,.int .i64 t195,.slice Ao23 t196.length co23,.slice Ao25 t199.length co25] 43 (0,0)) (by (with_reducible repeat (first|refine blk_drewN ?_ _|refine blk_drew ?_|refine blk_alloc ?_ _));exact BK190.out) hb);have n10_ := Aside0.mk (blk_below (g := gb191) (o := .cells #[.int .i64 t202,.int .i64 t203,.int .i64 t204,.slice Ao30 t205.length co30,.slice Ao32 t208.length co32] 43 (0,0)) (by (with_reducible repeat (first|refine blk_drewN ?_ _|refine blk_drew ?_|refine blk_alloc ?_ _));exact BK191.out) hb);have n11_ := Aside0.mk (blk_below (g := gb227) (o := .cells #[.int .i64 t217,.int .i64 t218,.int .i64 t219,.slice Ao45 t220.length co45,.slice Ao46 t223.length co46] 43 (0,0)) (by (with_reducible repeat (first|refine blk_drewN ?_ _|refine blk_drew ?_|refine blk_alloc ?_ _));exact BK227.out) hb);have n12_ := Aside0.mk (below_step (by repeat (first|(with_reducible first|exact HB.out|apply below_alloc|apply pw_below_drewN|apply below_drew1|refine below_set ?_ GE190.out|refine below_set ?_ GE191.out|refine below_set ?_ GE227.out)|exact HB.out)) hb);clear HO_15;clear HO_191003;clear HO_191004;clear HO_192003;clear HO_192004;clear HO_228003;clear HO_228004;clear BK190;clear BK191;clear BK227;clear HB;have HO_15 := n0_;have HO_191003 := n1_;have HO_191004 := n2_;have HO_192003 := n3_;have HO_192004 := n4_;have HO_228003 := n5_;have HO_228004 := n6_;have HO245 := n7_;have HO248 := n8_;have BK190 := n9_;have BK191 := n10_;have BK227 := n11_;have HB := n12_;clear n0_ n1_ n2_ n3_ n4_ n5_ n6_ n7_ n8_ n9_ n10_ n11_ n12_;(try clear hb);(try clear hb2);(try clear hk);(try clear hi);(try clear ho0);(try clear ho1))|((with_reducible refine gate_dst (N := 16) rfl ?_);(try (refine gate_guard (by rfl) ?_;dsimp only));refine box_event ?hg (N := 16) ?hd (cs := #[.int .i64 0,.int .i64 0,.int .i64 0,.slice none 0 0,.slice none 0 0]) (t := 43) ?hr ?_;(case hd => rfl);(case hg => rfl);(case hr => first|(go_simp;done)|(go_simp;rfl));intro gb250 hg w101 hbox hb;have n0_ := Aside0.mk (Kd.R_below (by (with_reducible repeat (first|apply Kd.R_alloc|apply Kd.R_drewN|apply Kd.R_drew));exact HO_15.out) hb);have n1_ := Aside0.mk (Kd.R_below (by (with_reducible repeat (first|apply Kd.R_alloc|apply Kd.R_drewN|apply Kd.R_drew));exact HO_191003.out) hb);have n2_ := Aside0.mk (Kd.V_below (Kd.V_elderB (by (with_reducible repeat (first|apply Kd.V_alloc|apply Kd.V_drewN|apply Kd.V_drew));exact HO_191004.out) gb250 (Nat.le_of_eq hg.symm)) hb);have n3_ := Aside0.mk (Kd.R_below (by (with_reducible repeat (first|apply Kd.R_alloc|apply Kd.R_drewN|apply Kd.R_drew));exact HO_192003.out) hb);have n4_ := Aside0.mk (Kd.V_below (Kd.V_elderB (by (with_reducible repeat (first|apply Kd.V_alloc|apply Kd.V_drewN|apply Kd.V_drew));exact HO_192004.out) gb250 (Nat.le_of_eq hg.symm)) hb);have n5_ := Aside0.mk (Kd.R_below (by (with_reducible repeat (first|apply Kd.R_alloc|apply Kd.R_drewN|apply Kd.R_drew));exact HO_228003.out) hb);have n6_ := Aside0.mk (Kd.R_below (by (with_reducible repeat (first|apply Kd.R_alloc|apply Kd.R_drewN|apply Kd.R_drew));exact HO_228004.out) hb);have n7_ := Aside0.mk (Kd.R_below (by (with_reducible repeat (first|apply Kd.R_alloc|apply Kd.R_drewN|apply Kd.R_drew));exact HO245.out) hb);have n8_ := Aside0.mk (Kd.R_below (by (with_reducible repeat (first|apply Kd.R_alloc|apply Kd.R_drewN|apply Kd.R_drew));exact HO248.out) hb);have n9_ := Aside0.mk (blk_below (g := gb190) (o := .cells #[.int .i64 t193,.int .i64 t194,.int .i64 t195,.slice Ao23 t196.length co23,.slice Ao25 t199.length co25] 43 (0,0)) (by (with_reducible repeat (first|refine blk_drewN ?_ _|refine blk_drew ?_|refine blk_alloc ?_ _));exact BK190.out) hb);have n10_ := Aside0.mk (blk_below (g := gb191) (o := .cells #[.int .i64 t202,.int .i64 t203,.int .i64 t204,.slice Ao30 t205.length co30,.slice Ao32 t208.length co32] 43 (0,0)) (by (with_reducible repeat (first|refine blk_drewN ?_ _|refine blk_drew ?_|refine blk_alloc ?_ _));exact BK191.out) hb);have n11_ := Aside0.mk (blk_below (g := gb227) (o := .cells #[.int .i64 t217,.int .i64 t218,.int .i64 t219,.slice Ao45 t220.length co45,.slice Ao46 t223.length co46] 43 (0,0)) (by (with_reducible repeat (first|refine blk_drewN ?_ _|refine blk_drew ?_|refine blk_alloc ?_ _));exact BK227.out) hb);have n12_ := Aside0.mk (below_step (by repeat (first|(with_reducible first|exact HB.out|apply below_alloc|apply pw_below_drewN|apply below_drew1|refine below_set ?_ GE190.out|refine below_set ?_ GE191.out|refine below_set ?_ GE227.out)|exact HB.out)) hb);have n13_ := Aside0.mk (hbox);have n14_ := Aside0.mk ((by rw [hg];exact (below_size (by repeat (first|(with_reducible first|exact HB.out|apply below_alloc|apply pw_below_drewN|apply below_drew1|refine below_set ?_ GE190.out|refine below_set ?_ GE191.out|refine below_set ?_ GE227.out)|exact HB.out))) : w.heap.size ≤ gb250));have n15_ := Aside0.mk ((by rw [hg];exact (below_size (by repeat (first|(with_reducible first|exact HB.out|apply below_alloc|apply pw_below_drewN|apply below_drew1|refine below_set ?_ GE190.out|refine below_set ?_ GE191.out|refine below_set ?_ GE227.out)|exact HB.out))) : w.heap.size ≤ gb250));have n16_ := Aside0.mk ((by rw [hg];exact Nat.ne_of_lt (blk_lt (g := gb190) (o := .cells #[.int .i64 t193,.int .i64 t194,.int .i64 t195,.slice Ao23 t196.length co23,.slice Ao25 t199.length co25] 43 (0,0)) (by (with_reducible repeat (first|refine blk_drewN ?_ _|refine blk_drew ?_|refine blk_alloc ?_ _));exact BK190.out)) : gb190 ≠ gb250));have n17_ := Aside0.mk ((by rw [hg];exact Nat.ne_of_gt (blk_lt (g := gb190) (o := .cells #[.int .i64 t193,.int .i64 t194,.int .i64 t195,.slice Ao23 t196.length co23,.slice Ao25 t199.length co25] 43 (0,0)) (by (with_reducible repeat (first|refine blk_drewN ?_ _|refine blk_drew ?_|refine blk_alloc ?_ _));exact BK190.out)) : gb250 ≠ gb190));have n18_ := Aside0.mk ((by rw [hg];exact Nat.ne_of_lt (blk_lt (g := gb191) (o := .cells #[.int .i64 t202,.int .i64 t203,.int .i64 t204,.slice Ao30 t205.length co30,.slice Ao32 t208.length co32] 43 (0,0)) (by (with_reducible repeat (first|refine blk_drewN ?_ _|refine blk_drew ?_|refine blk_alloc ?_ _));exact BK191.out)) : gb191 ≠ gb250));have n19_ := Aside0.mk ((by rw [hg];exact Nat.ne_of_gt (blk_lt (g := gb191) (o := .cells #[.int .i64 t202,.int .i64 t203,.int .i64 t204,.slice Ao30 t205.length co30,.slice Ao32 t208.length co32] 43 (0,0)) (by (with_reducible repeat (first|refine blk_drewN ?_ _|refine blk_drew ?_|refine blk_alloc ?_ _));exact BK191.out)) : gb250 ≠ gb191));have n20_ := Aside0.mk ((by rw [hg];exact Nat.ne_of_lt (blk_lt (g := gb227) (o := .cells #[.int .i64 t217,.int .i64 t218,.int .i64 t219,.slice Ao45 t220.length co45,.slice Ao46 t223.length co46] 43 (0,0)) (by (with_reducible repeat (first|refine blk_drewN ?_ _|refine blk_drew ?_|refine blk_alloc ?_ _));exact BK227.out)) : gb227 ≠ gb250));have n21_ := Aside0.mk ((by rw [hg];exact Nat.ne_of_gt (blk_lt (g := gb227) (o := .cells #[.int .i64 t217,.int .i64 t218,.int .i64 t219,.slice Ao45 t220.length co45,.slice Ao46 t223.length co46] 43 (0,0)) (by (with_reducible repeat (first|refine blk_drewN ?_ _|refine blk_drew ?_|refine blk_alloc ?_ _));exact BK227.out)) : gb250 ≠ gb227));clear HO_15;clear HO_191003;clear HO_191004;clear HO_192003;clear HO_192004;clear HO_228003;clear HO_228004;clear HO245;clear HO248;clear BK190;clear BK191;clear BK227;clear HB;have HO_15 := n0_;have HO_191003 := n1_;have HO_191004 := n2_;have HO_192003 := n3_;have HO_192004 := n4_;have HO_228003 := n5_;have HO_228004 := n6_;have HO245 := n7_;have HO248 := n8_;have BK190 := n9_;have BK191 := n10_;have BK227 := n11_;have HB := n12_;have BK250 := n13_;have GW250 := n14_;have GE250 := n15_;have NB190_250 := n16_;have NB250_190 := n17_;have NB191_250 := n18_;have NB250_191 := n19_;have NB227_250 := n20_;have NB250_227 := n21_;clear n0_ n1_ n2_ n3_ n4_ n5_ n6_ n7_ n8_ n9_ n10_ n11_ n12_ n13_ n14_ n15_ n16_ n17_ n18_ n19_ n20_ n21_;clear hb hbox hg;have hnb102 := NB250_190.out;have hnc102 := NB190_250.out;have hnb103 := NB250_191.out;have hnc103 := NB191_250.out;have hnb104 := NB250_227.out;have hnc104 := NB227_250.out;have hcz105_0 : w101.cell? ⟨gb250,0,none⟩ = some (.int .i64 0) := (blk_cell BK250.out 0).trans rfl;have hcz105_1 : w101.cell? ⟨gb250,1,none⟩ = some (.int .i64 0) := (blk_cell BK250.out 1).trans rfl;have hcz105_2 : w101.cell? ⟨gb250,2,none⟩ = some (.int .i64 0) := (blk_cell BK250.out 2).trans rfl;have hcz105_3 : w101.cell? ⟨gb250,3,none⟩ = some (.slice none 0 0) := (blk_cell BK250.out 3).trans rfl;have hcz105_4 : w101.cell? ⟨gb250,4,none⟩ = some (.slice none 0 0) := (blk_cell BK250.out 4).trans rfl;have hfz105_0 := blk_frozen BK250.out 0;have hfz105_1 := blk_frozen BK250.out 1;have hfz105_2 := blk_frozen BK250.out 2;have hfz105_3 := blk_frozen BK250.out 3;have hfz105_4 := blk_frozen BK250.out 4;obtain ⟨Ao106,co106,eo106⟩ := Kd.R_slice HO245.out;subst eo106;obtain ⟨Ao107,co107,eo107⟩ := Kd.R_slice HO248.out;subst eo107)|((with_reducible refine gate_callee (f := 25) rfl ?_);refine goesL_ (some 126) rfl rfl Try.func25 (by kernel_rfl) rfl #[.agg #[.int .i64 t240,.int .i64 t241,.int .i64 t242,.slice Ao106 t243.length co106,.slice Ao107 t246.length co107]] rfl (by (try simp only [List.map_toArray,List.map_cons,List.map_nil]);first | done | rfl|(simp only [List.length_drop,List.length_take];rfl)) ?_;(with_reducible refine (edit_Encode.calls kj84 t240 t241 t242 _ _ t243 _ _ t246 t251 t254 _ ?side1 ?side2 ?side3 ?side4 A97.out).mono ?_);(case side1 => refine (Kd.R_reads' (e := 55) (base := w.heap.size) (ok := fun k_ => (((True ∧ some k_ ≠ (.slice Ao23 t196.length co23 : Value).ownBlock) ∧ some k_ ≠ (.slice Ao30 t205.length co30 : Value).ownBlock) ∧ some k_ ≠ (.slice Ao45 t220.length co45 : Value).ownBlock)) (n := t243.length) (c := co106) ?_).2.2;exact (by (with_reducible repeat (first|apply Kd.R_alloc|apply Kd.R_drewN|apply Kd.R_drew));exact (Kd.R_mono (Kd.R_far (p := ⟨gb250,4,none⟩) (Kd.R_far (p := ⟨gb250,3,none⟩) (Kd.R_far (p := ⟨gb250,2,none⟩) (Kd.R_far (p := ⟨gb250,1,none⟩) (Kd.R_far (p := ⟨gb250,0,none⟩) (Kd.R_types HO245.out BK250.out (by decide)) (fun _ hk => hk.2) (.int .i64 t240)) (fun _ hk => hk.2) (.int .i64 t241)) (fun _ hk => hk.2) (.int .i64 t242)) (fun _ hk => hk.2) (.slice Ao106 t243.length co106)) (fun _ hk => hk.2) (.slice Ao107 t246.length co107)) (fun _ h_ => h_.1))));(case side2 => exact (Kd.R_reads' HO245.out).2.1);(case side3 => refine (Kd.R_reads' (e := 2) (base := w.heap.size) (ok := fun k_ => (True ∧ some k_ ≠ (.slice Ao46 t223.length co46 : Value).ownBlock)) (n := t246.length) (c := co107) ?_).2.2;exact (by (with_reducible repeat (first|apply Kd.R_alloc|apply Kd.R_drewN|apply Kd.R_drew));exact (Kd.R_mono (Kd.R_far (p := ⟨gb250,4,none⟩) (Kd.R_far (p := ⟨gb250,3,none⟩) (Kd.R_far (p := ⟨gb250,2,none⟩) (Kd.R_far (p := ⟨gb250,1,none⟩) (Kd.R_far (p := ⟨gb250,0,none⟩) (Kd.R_types HO248.out BK250.out (by decide)) (fun _ hk => hk.2) (.int .i64 t240)) (fun _ hk => hk.2) (.int .i64 t241)) (fun _ hk => hk.2) (.int .i64 t242)) (fun _ hk => hk.2) (.slice Ao106 t243.length co106)) (fun _ hk => hk.2) (.slice Ao107 t246.length co107)) (fun _ h_ => h_.1))));(case side4 => exact (Kd.R_reads' HO248.out).2.1);rintro e w108 ⟨v252,rfl,ho0,hb⟩;refine ⟨_,rfl,?_⟩;have n0_ := Aside0.mk (Kd.R_elder' (by (with_reducible repeat (first|apply Kd.R_alloc|apply Kd.R_drewN|apply Kd.R_drew));exact (Kd.R_mono (Kd.R_far (p := ⟨gb250,4,none⟩) (Kd.R_far (p := ⟨gb250,3,none⟩) (Kd.R_far (p := ⟨gb250,2,none⟩) (Kd.R_far (p := ⟨gb250,1,none⟩) (Kd.R_far (p := ⟨gb250,0,none⟩) (Kd.R_types HO_15.out BK250.out (by decide)) (fun _ hk => hk.2) (.int .i64 t240)) (fun _ hk => hk.2) (.int .i64 t241)) (fun _ hk => hk.2) (.int .i64 t242)) (fun _ hk => hk.2) (.slice Ao106 t243.length co106)) (fun _ hk => hk.2) (.slice Ao107 t246.length co107)) (fun _ h_ => h_.1))) (Kd.R_base ho0) hb);have n1_ := Aside0.mk (Kd.R_below (by (with_reducible repeat (first|apply Kd.R_alloc|apply Kd.R_drewN|apply Kd.R_drew));exact (Kd.R_mono (Kd.R_far (p := ⟨gb250,4,none⟩) (Kd.R_far (p := ⟨gb250,3,none⟩) (Kd.R_far (p := ⟨gb250,2,none⟩) (Kd.R_far (p := ⟨gb250,1,none⟩) (Kd.R_far (p := ⟨gb250,0,none⟩) (Kd.R_types HO_191003.out BK250.out (by decide)) (fun _ hk => hk.2) (.int .i64 t240)) (fun _ hk => hk.2) (.int .i64 t241)) (fun _ hk => hk.2) (.int .i64 t242)) (fun _ hk => hk.2) (.slice Ao106 t243.length co106)) (fun _ hk => hk.2) (.slice Ao107 t246.length co107)) (fun _ h_ => h_.1))) hb);have n2_ := Aside0.mk (Kd.V_elder' (by (with_reducible repeat (first|apply Kd.V_alloc|apply Kd.V_drewN|apply Kd.V_drew));exact (Kd.V_mono (Kd.V_far (p := ⟨gb250,4,none⟩) (Kd.V_far (p := ⟨gb250,3,none⟩) (Kd.V_far (p := ⟨gb250,2,none⟩) (Kd.V_far (p := ⟨gb250,1,none⟩) (Kd.V_far (p := ⟨gb250,0,none⟩) (Kd.V_mono HO_191004.out (fun k_ hk => (⟨hk,hk.2⟩ : _ ∧ k_ ≠ gb250))) (fun _ hk => hk.2) (.int .i64 t240)) (fun _ hk => hk.2) (.int .i64 t241)) (fun _ hk => hk.2) (.int .i64 t242)) (fun _ hk => hk.2) (.slice Ao106 t243.length co106)) (fun _ hk => hk.2) (.slice Ao107 t246.length co107)) (fun _ h_ => h_.1))) (Kd.R_base ho0) hb);have n3_ := Aside0.mk (Kd.R_below (by (with_reducible repeat (first|apply Kd.R_alloc|apply Kd.R_drewN|apply Kd.R_drew));exact (Kd.R_mono (Kd.R_far (p := ⟨gb250,4,none⟩) (Kd.R_far (p := ⟨gb250,3,none⟩) (Kd.R_far (p := ⟨gb250,2,none⟩) (Kd.R_far (p := ⟨gb250,1,none⟩) (Kd.R_far (p := ⟨gb250,0,none⟩) (Kd.R_types HO_192003.out BK250.out (by decide)) (fun _ hk => hk.2) (.int .i64 t240)) (fun _ hk => hk.2) (.int .i64 t241)) (fun _ hk => hk.2) (.int .i64 t242)) (fun _ hk => hk.2) (.slice Ao106 t243.length co106)) (fun _ hk => hk.2) (.slice Ao107 t246.length co107)) (fun _ h_ => h_.1))) hb);have n4_ := Aside0.mk (Kd.V_elder' (by (with_reducible repeat (first|apply Kd.V_alloc|apply Kd.V_drewN|apply Kd.V_drew));exact (Kd.V_mono (Kd.V_far (p := ⟨gb250,4,none⟩) (Kd.V_far (p := ⟨gb250,3,none⟩) (Kd.V_far (p := ⟨gb250,2,none⟩) (Kd.V_far (p := ⟨gb250,1,none⟩) (Kd.V_far (p := ⟨gb250,0,none⟩) (Kd.V_mono HO_192004.out (fun k_ hk => (⟨hk,hk.2⟩ : _ ∧ k_ ≠ gb250))) (fun _ hk => hk.2) (.int .i64 t240)) (fun _ hk => hk.2) (.int .i64 t241)) (fun _ hk => hk.2) (.int .i64 t242)) (fun _ hk => hk.2) (.slice Ao106 t243.length co106)) (fun _ hk => hk.2) (.slice Ao107 t246.length co107)) (fun _ h_ => h_.1))) (Kd.R_base ho0) hb);have n5_ := Aside0.mk (Kd.R_below (by (with_reducible repeat (first|apply Kd.R_alloc|apply Kd.R_drewN|apply Kd.R_drew));exact (Kd.R_mono (Kd.R_far (p := ⟨gb250,4,none⟩) (Kd.R_far (p := ⟨gb250,3,none⟩) (Kd.R_far (p := ⟨gb250,2,none⟩) (Kd.R_far (p := ⟨gb250,1,none⟩) (Kd.R_far (p := ⟨gb250,0,none⟩) (Kd.R_types HO_228003.out BK250.out (by decide)) (fun _ hk => hk.2) (.int .i64 t240)) (fun _ hk => hk.2) (.int .i64 t241)) (fun _ hk => hk.2) (.int .i64 t242)) (fun _ hk => hk.2) (.slice Ao106 t243.length co106)) (fun _ hk => hk.2) (.slice Ao107 t246.length co107)) (fun _ h_ => h_.1))) hb);have n6_ := Aside0.mk (Kd.R_below (by (with_reducible repeat (first|apply Kd.R_alloc|apply Kd.R_drewN|apply Kd.R_drew));exact (Kd.R_mono (Kd.R_far (p := ⟨gb250,4,none⟩) (Kd.R_far (p := ⟨gb250,3,none⟩) (Kd.R_far (p := ⟨gb250,2,none⟩) (Kd.R_far (p := ⟨gb250,1,none⟩) (Kd.R_far (p := ⟨gb250,0,none⟩) (Kd.R_types HO_228004.out BK250.out (by decide)) (fun _ hk => hk.2) (.int .i64 t240)) (fun _ hk => hk.2) (.int .i64 t241)) (fun _ hk => hk.2) (.int .i64 t242)) (fun _ hk => hk.2) (.slice Ao106 t243.length co106)) (fun _ hk => hk.2) (.slice Ao107 t246.length co107)) (fun _ h_ => h_.1))) hb);have n7_ := Aside0.mk (Kd.R_below (by (with_reducible repeat (first|apply Kd.R_alloc|apply Kd.R_drewN|apply Kd.R_drew));exact (Kd.R_mono (Kd.R_far (p := ⟨gb250,4,none⟩) (Kd.R_far (p := ⟨gb250,3,none⟩) (Kd.R_far (p := ⟨gb250,2,none⟩) (Kd.R_far (p := ⟨gb250,1,none⟩) (Kd.R_far (p := ⟨gb250,0,none⟩) (Kd.R_types HO245.out BK250.out (by decide)) (fun _ hk => hk.2) (.int .i64 t240)) (fun _ hk => hk.2) (.int .i64 t241)) (fun _ hk => hk.2) (.int .i64 t242)) (fun _ hk => hk.2) (.slice Ao106 t243.length co106)) (fun _ hk => hk.2) (.slice Ao107 t246.length co107)) (fun _ h_ => h_.1))) hb);have n8_ := Aside0.mk (Kd.R_below (by (with_reducible repeat (first|apply Kd.R_alloc|apply Kd.R_drewN|apply Kd.R_drew));exact (Kd.R_mono (Kd.R_far (p := ⟨gb250,4,none⟩) (Kd.R_far (p := ⟨gb250,3,none⟩) (Kd.R_far (p := ⟨gb250,2,none⟩) (Kd.R_far (p := ⟨gb250,1,none⟩) (Kd.R_far (p := ⟨gb250,0,none⟩) (Kd.R_types HO248.out BK250.out (by decide)) (fun _ hk => hk.2) (.int .i64 t240)) (fun _ hk => hk.2) (.int .i64 t241)) (fun _ hk => hk.2) (.int .i64 t242)) (fun _ hk => hk.2) (.slice Ao106 t243.length co106)) (fun _ hk => hk.2) (.slice Ao107 t246.length co107)) (fun _ h_ => h_.1))) hb);have n9_ := Aside0.mk (Kd.R_lower (Kd.R_new' ho0 (Kd.R_lt (by (with_reducible repeat (first|apply Kd.R_alloc|apply Kd.R_drewN|apply Kd.R_drew));exact (Kd.R_mono (Kd.R_far (p := ⟨gb250,4,none⟩) (Kd.R_far (p := ⟨gb250,3,none⟩) (Kd.R_far (p := ⟨gb250,2,none⟩) (Kd.R_far (p := ⟨gb250,1,none⟩) (Kd.R_far (p := ⟨gb250,0,none⟩) (Kd.R_types HO_15.out BK250.out (by decide)) (fun _ hk => hk.2) (.int .i64 t240)) (fun _ hk => hk.2) (.int .i64 t241)) (fun _ hk => hk.2) (.int .i64 t242)) (fun _ hk => hk.2) (.slice Ao106 t243.length co106)) (fun _ hk => hk.2) (.slice Ao107 t246.length co107)) (fun _ h_ => h_.1))))) (below_size (by repeat (first|(with_reducible first|exact HB.out|apply below_alloc|apply pw_below_drewN|apply below_drew1|refine below_set ?_ GE190.out|refine below_set ?_ GE191.out|refine below_set ?_ GE227.out|refine below_set ?_ GE250.out)|exact HB.out))));have n10_ := Aside0.mk (blk_below (g := gb190) (o := .cells #[.int .i64 t193,.int .i64 t194,.int .i64 t195,.slice Ao23 t196.length co23,.slice Ao25 t199.length co25] 43 (0,0)) (by (with_reducible repeat (first|refine blk_drewN ?_ _|refine blk_drew ?_|refine blk_alloc ?_ _));refine blk_far ?_ NB190_250.out _;(with_reducible repeat (first|refine blk_drewN ?_ _|refine blk_drew ?_|refine blk_alloc ?_ _));refine blk_far ?_ NB190_250.out _;(with_reducible repeat (first|refine blk_drewN ?_ _|refine blk_drew ?_|refine blk_alloc ?_ _));refine blk_far ?_ NB190_250.out _;(with_reducible repeat (first|refine blk_drewN ?_ _|refine blk_drew ?_|refine blk_alloc ?_ _));refine blk_far ?_ NB190_250.out _;(with_reducible repeat (first|refine blk_drewN ?_ _|refine blk_drew ?_|refine blk_alloc ?_ _));refine blk_far ?_ NB190_250.out _;(with_reducible repeat (first|refine blk_drewN ?_ _|refine blk_drew ?_|refine blk_alloc ?_ _));exact BK190.out) hb);have n11_ := Aside0.mk (blk_below (g := gb191) (o := .cells #[.int .i64 t202,.int .i64 t203,.int .i64 t204,.slice Ao30 t205.length co30,.slice Ao32 t208.length co32] 43 (0,0)) (by (with_reducible repeat (first|refine blk_drewN ?_ _|refine blk_drew ?_|refine blk_alloc ?_ _));refine blk_far ?_ NB191_250.out _;(with_reducible repeat (first|refine blk_drewN ?_ _|refine blk_drew ?_|refine blk_alloc ?_ _));refine blk_far ?_ NB191_250.out _;(with_reducible repeat (first|refine blk_drewN ?_ _|refine blk_drew ?_|refine blk_alloc ?_ _));refine blk_far ?_ NB191_250.out _;(with_reducible repeat (first|refine blk_drewN ?_ _|refine blk_drew ?_|refine blk_alloc ?_ _));refine blk_far ?_ NB191_250.out _;(with_reducible repeat (first|refine blk_drewN ?_ _|refine blk_drew ?_|refine blk_alloc ?_ _));refine blk_far ?_ NB191_250.out _;(with_reducible repeat (first|refine blk_drewN ?_ _|refine blk_drew ?_|refine blk_alloc ?_ _));exact BK191.out) hb);have n12_ := Aside0.mk (blk_below (g := gb227) (o := .cells #[.int .i64 t217,.int .i64 t218,.int .i64 t219,.slice Ao45 t220.length co45,.slice Ao46 t223.length co46] 43 (0,0)) (by (with_reducible repeat (first|refine blk_drewN ?_ _|refine blk_drew ?_|refine blk_alloc ?_ _));refine blk_far ?_ NB227_250.out _;(with_reducible repeat (first|refine blk_drewN ?_ _|refine blk_drew ?_|refine blk_alloc ?_ _));refine blk_far ?_ NB227_250.out _;(with_reducible repeat (first|refine blk_drewN ?_ _|refine blk_drew ?_|refine blk_alloc ?_ _));refine blk_far ?_ NB227_250.out _;(with_reducible repeat (first|refine blk_drewN ?_ _|refine blk_drew ?_|refine blk_alloc ?_ _));refine blk_far ?_ NB227_250.out _;(with_reducible repeat (first|refine blk_drewN ?_ _|refine blk_drew ?_|refine blk_alloc ?_ _));refine blk_far ?_ NB227_250.out _;(with_reducible repeat (first|refine blk_drewN ?_ _|refine blk_drew ?_|refine blk_alloc ?_ _));exact BK227.out) hb);have n13_ := Aside0.mk (blk_below (g := gb250) (o := .cells #[.int .i64 t240,.int .i64 t241,.int .i64 t242,.slice Ao106 t243.length co106,.slice Ao107 t246.length co107] 43 (0,0)) (by (with_reducible repeat (first|refine blk_drewN ?_ _|refine blk_drew ?_|refine blk_alloc ?_ _));refine blk_put (cs := #[.int .i64 t240,.int .i64 t241,.int .i64 t242,.slice Ao106 t243.length co106,.slice none 0 0]) ?_ 4 _ rfl;(with_reducible repeat (first|refine blk_drewN ?_ _|refine blk_drew ?_|refine blk_alloc ?_ _));refine blk_put (cs := #[.int .i64 t240,.int .i64 t241,.int .i64 t242,.slice none 0 0,.slice none 0 0]) ?_ 3 _ rfl;(with_reducible repeat (first|refine blk_drewN ?_ _|refine blk_drew ?_|refine blk_alloc ?_ _));refine blk_put (cs := #[.int .i64 t240,.int .i64 t241,.int .i64 0,.slice none 0 0,.slice none 0 0]) ?_ 2 _ rfl;(with_reducible repeat (first|refine blk_drewN ?_ _|refine blk_drew ?_|refine blk_alloc ?_ _));refine blk_put (cs := #[.int .i64 t240,.int .i64 0,.int .i64 0,.slice none 0 0,.slice none 0 0]) ?_ 1 _ rfl;(with_reducible repeat (first|refine blk_drewN ?_ _|refine blk_drew ?_|refine blk_alloc ?_ _));refine blk_put (cs := #[.int .i64 0,.int .i64 0,.int .i64 0,.slice none 0 0,.slice none 0 0]) ?_ 0 _ rfl;(with_reducible repeat (first|refine blk_drewN ?_ _|refine blk_drew ?_|refine blk_alloc ?_ _));exact BK250.out) hb);have n14_ := Aside0.mk (below_step (by repeat (first|(with_reducible first|exact HB.out|apply below_alloc|apply pw_below_drewN|apply below_drew1|refine below_set ?_ GE190.out|refine below_set ?_ GE191.out|refine below_set ?_ GE227.out|refine below_set ?_ GE250.out)|exact HB.out)) hb);clear HO_15;clear HO_191003;clear HO_191004;clear HO_192003;clear HO_192004;clear HO_228003;clear HO_228004;clear HO245;clear HO248;clear BK190;clear BK191;clear BK227;clear BK250;clear HB;have HO_15 := n0_;have HO_191003 := n1_;have HO_191004 := n2_;have HO_192003 := n3_;have HO_192004 := n4_;have HO_228003 := n5_;have HO_228004 := n6_;have HO245 := n7_;have HO248 := n8_;have HO253 := n9_;have BK190 := n10_;have BK191 := n11_;have BK227 := n12_;have BK250 := n13_;have HB := n14_;clear n0_ n1_ n2_ n3_ n4_ n5_ n6_ n7_ n8_ n9_ n10_ n11_ n12_ n13_ n14_;(try clear hb);(try clear hb2);(try clear hk);(try clear hi);(try clear ho0);have hcv109 := own_string (P := Try.prog) Try.underlying28 Try.underlying5 Try.underlying9 (Kd.own_of_R HO253.out);(try have hcv110 := fun n_ => own_string (P := Try.prog) Try.underlying28 Try.underlying5 Try.underlying9 (Kd.own_of_R (Kd.R_drewN HO253.out n_)));have hcv111 := own_string (P := Try.prog) Try.underlying28 Try.underlying5 Try.underlying9 (Kd.own_of_R HO_15.out);(try have hcv112 := fun n_ => own_string (P := Try.prog) Try.underlying28 Try.underlying5 Try.underlying9 (Kd.own_of_R (Kd.R_drewN HO_15.out n_)))))
                go_ret
                exact ⟨by first | rfl|(simp [errW_none,errW_some] <;> rfl)|(simp [*,errW_none,errW_some] <;> rfl),by repeat (first|(with_reducible first|exact HB.out|apply below_alloc|apply pw_below_drewN|apply below_drew1|refine below_set ?_ GE190.out|refine below_set ?_ GE191.out|refine below_set ?_ GE227.out|refine below_set ?_ GE250.out)|exact HB.out)⟩
               ·rw [if_neg c98] at H
                have c98b0 : (t254 == 0) = false := beq_eq_false_iff_ne.mpr c98
                have c98b1 : (t254 != 0) = true := bne_iff_ne.mpr c98
                obtain rfl := Option.some.inj H
                exact absurd HRT.out (by decide)
              ·rw [if_neg c96] at H
               have c96b0 : (t249 == 0) = false := beq_eq_false_iff_ne.mpr c96
               have c96b1 : (t249 != 0) = true := bne_iff_ne.mpr c96
               by_cases c113 : t249 = 8
               ·rw [if_pos c113] at H
                have c113b0 : (t249 == 8) = true := beq_iff_eq.mpr c113
                have c113b1 : (t249 != 8) = false := bne_eq_false_iff_eq.mpr c113
                clear c113
                by_cases c114 : t240 = 0
                ·rw [if_pos c114] at H
                 have c114b0 : (t240 == 0) = true := beq_iff_eq.mpr c114
                 have c114b1 : (t240 != 0) = false := bne_eq_false_iff_eq.mpr c114
                 clear c114
                 obtain rfl := Option.some.inj H
                 simp only [Option.some.injEq,Prod.mk.injEq] at H
                 obtain ⟨rfl⟩ := H
                 obtain ⟨Ao115,co115,eo115⟩ := Kd.R_slice HO_15.out
                 subst eo115
                 go_wp2_with (first|((with_reducible refine gate_callee (f := 28) rfl ?_);refine goesL_ (some 106) rfl rfl Try.func28 (by kernel_rfl) rfl #[.slice Ao115 x15_84.length co115] rfl (by (try simp only [List.map_toArray,List.map_cons,List.map_nil]);first | done | rfl|(simp only [List.length_drop,List.length_take];rfl)) ?_;(with_reducible refine (edit_Decode.calls kj84 _ _ x15_84 t240 t241 t242 t243 t246 t249 _ ?side1 ?side2 A95.out).mono ?_);(case side1 => repeat (first|exact (Kd.R_reads' HO_15.out).2.2|(with_reducible refine Kd.C_alloc ?_ _)|(with_reducible refine Kd.C_drewN ?_ _)|(with_reducible refine Kd.C_drew ?_)));(case side2 => exact (Kd.R_reads' HO_15.out).2.1);rintro e w116 ⟨v244,v247,rfl,ho0,ho1,hb⟩;refine ⟨_,rfl,?_⟩;have n0_ := Aside0.mk (Kd.R_below (by (with_reducible repeat (first|apply Kd.R_alloc|apply Kd.R_drewN|apply Kd.R_drew));exact HO_15.out) hb);have n1_ := Aside0.mk (Kd.R_elder' (by (with_reducible repeat (first|apply Kd.R_alloc|apply Kd.R_drewN|apply Kd.R_drew));exact HO_191003.out) (Kd.R_base ho0) hb);have n2_ := Aside0.mk (Kd.V_mono (Kd.V_told (Kd.V_told (Kd.V_old (by (with_reducible repeat (first|apply Kd.V_alloc|apply Kd.V_drewN|apply Kd.V_drew));exact HO_191004.out) hb) (Kd.R_base ho0)) (Kd.R_base ho1)) (fun _ h_ => h_.1));have n3_ := Aside0.mk (Kd.R_elder' (by (with_reducible repeat (first|apply Kd.R_alloc|apply Kd.R_drewN|apply Kd.R_drew));exact HO_192003.out) (Kd.R_base ho0) hb);have n4_ := Aside0.mk (Kd.V_mono (Kd.V_told (Kd.V_told (Kd.V_old (by (with_reducible repeat (first|apply Kd.V_alloc|apply Kd.V_drewN|apply Kd.V_drew));exact HO_192004.out) hb) (Kd.R_base ho0)) (Kd.R_base ho1)) (fun _ h_ => h_.1));have n5_ := Aside0.mk (Kd.R_elder' (by (with_reducible repeat (first|apply Kd.R_alloc|apply Kd.R_drewN|apply Kd.R_drew));exact HO_228003.out) (Kd.R_base ho0) hb);have n6_ := Aside0.mk (Kd.R_elder' (by (with_reducible repeat (first|apply Kd.R_alloc|apply Kd.R_drewN|apply Kd.R_drew));exact HO_228004.out) (Kd.R_base ho1) hb);have n7_ := Aside0.mk (Kd.R_lower (Kd.R_new' (Kd.R_new' (Kd.R_new' ho0 (Kd.R_lt (by (with_reducible repeat (first|apply Kd.R_alloc|apply Kd.R_drewN|apply Kd.R_drew));exact HO_191003.out))) (Kd.R_lt (by (with_reducible repeat (first|apply Kd.R_alloc|apply Kd.R_drewN|apply Kd.R_drew));exact HO_192003.out))) (Kd.R_lt (by (with_reducible repeat (first|apply Kd.R_alloc|apply Kd.R_drewN|apply Kd.R_drew));exact HO_228003.out))) (below_size (by repeat (first|(with_reducible first|exact HB.out|apply below_alloc|apply pw_below_drewN|apply below_drew1|refine below_set ?_ GE190.out|refine below_set ?_ GE191.out|refine below_set ?_ GE227.out)|exact HB.out))));have n8_ := Aside0.mk (Kd.R_lower (Kd.R_new' ho1 (Kd.R_lt (by (with_reducible repeat (first|apply Kd.R_alloc|apply Kd.R_drewN|apply Kd.R_drew));exact HO_228004.out))) (below_size (by repeat (first|(with_reducible first|exact HB.out|apply below_alloc|apply pw_below_drewN|apply below_drew1|refine below_set ?_ GE190.out|refine below_set ?_ GE191.out|refine below_set ?_ GE227.out)|exact HB.out))));have n9_ := Aside0.mk (blk_below (g := gb190) (o := .cells #[.int .i64 t193,.int .i64 t194,.int .i64 t195,.slice Ao23 t196.length co23,.slice Ao25 t199.length co25] 43 (0,0)) (by (with_reducible repeat (first|refine blk_drewN ?_ _|refine blk_drew ?_|refine blk_alloc ?_ _));exact BK190.out) hb);have n10_ := Aside0.mk (blk_below (g := gb191) (o := .cells #[.int .i64 t202,.int .i64 t203,.int .i64 t204,.slice Ao30 t205.length co30,.slice Ao32 t208.length co32] 43 (0,0)) (by (with_reducible repeat (first|refine blk_drewN ?_ _|refine blk_drew ?_|refine blk_alloc ?_ _));exact BK191.out) hb);have n11_ := Aside0.mk (blk_below (g := gb227) (o := .cells #[.int .i64 t217,.int .i64 t218,.int .i64 t219,.slice Ao45 t220.length co45,.slice Ao46 t223.length co46] 43 (0,0)) (by (with_reducible repeat (first|refine blk_drewN ?_ _|refine blk_drew ?_|refine blk_alloc ?_ _));exact BK227.out) hb);have n12_ := Aside0.mk (below_step (by repeat (first|(with_reducible first|exact HB.out|apply below_alloc|apply pw_below_drewN|apply below_drew1|refine below_set ?_ GE190.out|refine below_set ?_ GE191.out|refine below_set ?_ GE227.out)|exact HB.out)) hb);clear HO_15;clear HO_191003;clear HO_191004;clear HO_192003;clear HO_192004;clear HO_228003;clear HO_228004;clear BK190;clear BK191;clear BK227;clear HB;have HO_15 := n0_;have HO_191003 := n1_;have HO_191004 := n2_;have HO_192003 := n3_;have HO_192004 := n4_;have HO_228003 := n5_;have HO_228004 := n6_;have HO245 := n7_;have HO248 := n8_;have BK190 := n9_;have BK191 := n10_;have BK227 := n11_;have HB := n12_;clear n0_ n1_ n2_ n3_ n4_ n5_ n6_ n7_ n8_ n9_ n10_ n11_ n12_;(try clear hb);(try clear hb2);(try clear hk);(try clear hi);(try clear ho0);(try clear ho1))|((with_reducible refine gate_dst (N := 16) rfl ?_);(try (refine gate_guard (by rfl) ?_;dsimp only));refine box_event ?hg (N := 16) ?hd (cs := #[.int .i64 0,.int .i64 0,.int .i64 0,.slice none 0 0,.slice none 0 0]) (t := 43) ?hr ?_;(case hd => rfl);(case hg => rfl);(case hr => first|(go_simp;done)|(go_simp;rfl));intro gb250 hg w117 hbox hb;have n0_ := Aside0.mk (Kd.R_below (by (with_reducible repeat (first|apply Kd.R_alloc|apply Kd.R_drewN|apply Kd.R_drew));exact HO_15.out) hb);have n1_ := Aside0.mk (Kd.R_below (by (with_reducible repeat (first|apply Kd.R_alloc|apply Kd.R_drewN|apply Kd.R_drew));exact HO_191003.out) hb);have n2_ := Aside0.mk (Kd.V_below (Kd.V_elderB (by (with_reducible repeat (first|apply Kd.V_alloc|apply Kd.V_drewN|apply Kd.V_drew));exact HO_191004.out) gb250 (Nat.le_of_eq hg.symm)) hb);have n3_ := Aside0.mk (Kd.R_below (by (with_reducible repeat (first|apply Kd.R_alloc|apply Kd.R_drewN|apply Kd.R_drew));exact HO_192003.out) hb);have n4_ := Aside0.mk (Kd.V_below (Kd.V_elderB (by (with_reducible repeat (first|apply Kd.V_alloc|apply Kd.V_drewN|apply Kd.V_drew));exact HO_192004.out) gb250 (Nat.le_of_eq hg.symm)) hb);have n5_ := Aside0.mk (Kd.R_below (by (with_reducible repeat (first|apply Kd.R_alloc|apply Kd.R_drewN|apply Kd.R_drew));exact HO_228003.out) hb);have n6_ := Aside0.mk (Kd.R_below (by (with_reducible repeat (first|apply Kd.R_alloc|apply Kd.R_drewN|apply Kd.R_drew));exact HO_228004.out) hb);have n7_ := Aside0.mk (Kd.R_below (by (with_reducible repeat (first|apply Kd.R_alloc|apply Kd.R_drewN|apply Kd.R_drew));exact HO245.out) hb);have n8_ := Aside0.mk (Kd.R_below (by (with_reducible repeat (first|apply Kd.R_alloc|apply Kd.R_drewN|apply Kd.R_drew));exact HO248.out) hb);have n9_ := Aside0.mk (blk_below (g := gb190) (o := .cells #[.int .i64 t193,.int .i64 t194,.int .i64 t195,.slice Ao23 t196.length co23,.slice Ao25 t199.length co25] 43 (0,0)) (by (with_reducible repeat (first|refine blk_drewN ?_ _|refine blk_drew ?_|refine blk_alloc ?_ _));exact BK190.out) hb);have n10_ := Aside0.mk (blk_below (g := gb191) (o := .cells #[.int .i64 t202,.int .i64 t203,.int .i64 t204,.slice Ao30 t205.length co30,.slice Ao32 t208.length co32] 43 (0,0)) (by (with_reducible repeat (first|refine blk_drewN ?_ _|refine blk_drew ?_|refine blk_alloc ?_ _));exact BK191.out) hb);have n11_ := Aside0.mk (blk_below (g := gb227) (o := .cells #[.int .i64 t217,.int .i64 t218,.int .i64 t219,.slice Ao45 t220.length co45,.slice Ao46 t223.length co46] 43 (0,0)) (by (with_reducible repeat (first|refine blk_drewN ?_ _|refine blk_drew ?_|refine blk_alloc ?_ _));exact BK227.out) hb);have n12_ := Aside0.mk (below_step (by repeat (first|(with_reducible first|exact HB.out|apply below_alloc|apply pw_below_drewN|apply below_drew1|refine below_set ?_ GE190.out|refine below_set ?_ GE191.out|refine below_set ?_ GE227.out)|exact HB.out)) hb);have n13_ := Aside0.mk (hbox);have n14_ := Aside0.mk ((by rw [hg];exact (below_size (by repeat (first|(with_reducible first|exact HB.out|apply below_alloc|apply pw_below_drewN|apply below_drew1|refine below_set ?_ GE190.out|refine below_set ?_ GE191.out|refine below_set ?_ GE227.out)|exact HB.out))) : w.heap.size ≤ gb250));have n15_ := Aside0.mk ((by rw [hg];exact (below_size (by repeat (first|(with_reducible first|exact HB.out|apply below_alloc|apply pw_below_drewN|apply below_drew1|refine below_set ?_ GE190.out|refine below_set ?_ GE191.out|refine below_set ?_ GE227.out)|exact HB.out))) : w.heap.size ≤ gb250));have n16_ := Aside0.mk ((by rw [hg];exact Nat.ne_of_lt (blk_lt (g := gb190) (o := .cells #[.int .i64 t193,.int .i64 t194,.int .i64 t195,.slice Ao23 t196.length co23,.slice Ao25 t199.length co25] 43 (0,0)) (by (with_reducible repeat (first|refine blk_drewN ?_ _|refine blk_drew ?_|refine blk_alloc ?_ _));exact BK190.out)) : gb190 ≠ gb250));have n17_ := Aside0.mk ((by rw [hg];exact Nat.ne_of_gt (blk_lt (g := gb190) (o := .cells #[.int .i64 t193,.int .i64 t194,.int .i64 t195,.slice Ao23 t196.length co23,.slice Ao25 t199.length co25] 43 (0,0)) (by (with_reducible repeat (first|refine blk_drewN ?_ _|refine blk_drew ?_|refine blk_alloc ?_ _));exact BK190.out)) : gb250 ≠ gb190));have n18_ := Aside0.mk ((by rw [hg];exact Nat.ne_of_lt (blk_lt (g := gb191) (o := .cells #[.int .i64 t202,.int .i64 t203,.int .i64 t204,.slice Ao30 t205.length co30,.slice Ao32 t208.length co32] 43 (0,0)) (by (with_reducible repeat (first|refine blk_drewN ?_ _|refine blk_drew ?_|refine blk_alloc ?_ _));exact BK191.out)) : gb191 ≠ gb250));have n19_ := Aside0.mk ((by rw [hg];exact Nat.ne_of_gt (blk_lt (g := gb191) (o := .cells #[.int .i64 t202,.int .i64 t203,.int .i64 t204,.slice Ao30 t205.length co30,.slice Ao32 t208.length co32] 43 (0,0)) (by (with_reducible repeat (first|refine blk_drewN ?_ _|refine blk_drew ?_|refine blk_alloc ?_ _));exact BK191.out)) : gb250 ≠ gb191));have n20_ := Aside0.mk ((by rw [hg];exact Nat.ne_of_lt (blk_lt (g := gb227) (o := .cells #[.int .i64 t217,.int .i64 t218,.int .i64 t219,.slice Ao45 t220.length co45,.slice Ao46 t223.length co46] 43 (0,0)) (by (with_reducible repeat (first|refine blk_drewN ?_ _|refine blk_drew ?_|refine blk_alloc ?_ _));exact BK227.out)) : gb227 ≠ gb250));have n21_ := Aside0.mk ((by rw [hg];exact Nat.ne_of_gt (blk_lt (g := gb227) (o := .cells #[.int .i64 t217,.int .i64 t218,.int .i64 t219,.slice Ao45 t220.length co45,.slice Ao46 t223.length co46] 43 (0,0)) (by (with_reducible repeat (first|refine blk_drewN ?_ _|refine blk_drew ?_|refine blk_alloc ?_ _));exact BK227.out)) : gb250 ≠ gb227));clear HO_15;clear HO_191003;clear HO_191004;clear HO_192003;clear HO_192004;clear HO_228003;clear HO_228004;clear HO245;clear HO248;clear BK190;clear BK191;clear BK227;clear HB;have HO_15 := n0_;have HO_191003 := n1_;have HO_191004 := n2_;have HO_192003 := n3_;have HO_192004 := n4_;have HO_228003 := n5_;have HO_228004 := n6_;have HO245 := n7_;have HO248 := n8_;have BK190 := n9_;have BK191 := n10_;have BK227 := n11_;have HB := n12_;have BK250 := n13_;have GW250 := n14_;have GE250 := n15_;have NB190_250 := n16_;have NB250_190 := n17_;have NB191_250 := n18_;have NB250_191 := n19_;have NB227_250 := n20_;have NB250_227 := n21_;clear n0_ n1_ n2_ n3_ n4_ n5_ n6_ n7_ n8_ n9_ n10_ n11_ n12_ n13_ n14_ n15_ n16_ n17_ n18_ n19_ n20_ n21_;clear hb hbox hg;have hnb118 := NB250_190.out;have hnc118 := NB190_250.out;have hnb119 := NB250_191.out;have hnc119 := NB191_250.out;have hnb120 := NB250_227.out;have hnc120 := NB227_250.out;have hcz121_0 : w117.cell? ⟨gb250,0,none⟩ = some (.int .i64 0) := (blk_cell BK250.out 0).trans rfl;have hcz121_1 : w117.cell? ⟨gb250,1,none⟩ = some (.int .i64 0) := (blk_cell BK250.out 1).trans rfl;have hcz121_2 : w117.cell? ⟨gb250,2,none⟩ = some (.int .i64 0) := (blk_cell BK250.out 2).trans rfl;have hcz121_3 : w117.cell? ⟨gb250,3,none⟩ = some (.slice none 0 0) := (blk_cell BK250.out 3).trans rfl;have hcz121_4 : w117.cell? ⟨gb250,4,none⟩ = some (.slice none 0 0) := (blk_cell BK250.out 4).trans rfl;have hfz121_0 := blk_frozen BK250.out 0;have hfz121_1 := blk_frozen BK250.out 1;have hfz121_2 := blk_frozen BK250.out 2;have hfz121_3 := blk_frozen BK250.out 3;have hfz121_4 := blk_frozen BK250.out 4;obtain ⟨Ao122,co122,eo122⟩ := Kd.R_slice HO245.out;subst eo122;obtain ⟨Ao123,co123,eo123⟩ := Kd.R_slice HO248.out;subst eo123))
                 go_ret
                 exact ⟨by first | rfl|(simp [errW_none,errW_some] <;> rfl)|(simp [*,errW_none,errW_some] <;> rfl),by repeat (first|(with_reducible first|exact HB.out|apply below_alloc|apply pw_below_drewN|apply below_drew1|refine below_set ?_ GE190.out|refine below_set ?_ GE191.out|refine below_set ?_ GE227.out|refine below_set ?_ GE250.out)|exact HB.out)⟩
                ·rw [if_neg c114] at H
                 have c114b0 : (t240 == 0) = false := beq_eq_false_iff_ne.mpr c114
                 have c114b1 : (t240 != 0) = true := bne_iff_ne.mpr c114
                 obtain rfl := Option.some.inj H
                 exact absurd HRT.out (by decide)
               ·rw [if_neg c113] at H
                have c113b0 : (t249 == 8) = false := beq_eq_false_iff_ne.mpr c113
                have c113b1 : (t249 != 8) = true := bne_iff_ne.mpr c113
                obtain rfl := Option.some.inj H
                exact absurd HRT.out (by decide)
         ·rw [if_neg c80] at H
          exact absurd H (by simp)
  ·replace c11 := Bool.eq_false_iff.mpr c11
   subst c11
   have H1 : (if t214 = 12 then (if (t211.length : Int) = 0 then ((edit_Check.f k t193 t194 t195 t196 t199).bind fun t216 => (some (t216 == 12))) else (some false)) else (some false)) = some r := by rw [if_neg (show ¬ (false = true) by decide)] at H;exact H
   clear H
   have H := H1
   clear H1
   by_cases c124 : t214 = 12
   ·rw [if_pos c124] at H
    have c124b0 : (t214 == 12) = true := beq_iff_eq.mpr c124
    have c124b1 : (t214 != 12) = false := bne_eq_false_iff_eq.mpr c124
    clear c124
    by_cases c125 : (t211.length : Int) = 0
    ·rw [if_pos c125] at H
     have c125b0 : ((t211.length : Int) == 0) = true := beq_iff_eq.mpr c125
     have c125b1 : ((t211.length : Int) != 0) = false := bne_eq_false_iff_eq.mpr c125
     clear c125
     replace H := Option.bind_eq_some_iff.mp H
     obtain ⟨t216,A1260,H⟩ := H
     replace H : (some (t216 == 12)) = some r := H
     have A126 := Aside0.mk A1260
     clear A1260
     obtain rfl := Option.some.inj H
     simp only [Option.some.injEq,Prod.mk.injEq] at H
     obtain ⟨rfl⟩ := H
     go_enter Try.func5,Try.ntmps5
     try go_wp2_with (first|((with_reducible refine gate_dst (N := 4) rfl ?_);(try (refine gate_guard (by rfl) ?_;dsimp only));refine box_event ?hg (N := 4) ?hd (cs := #[.int .i64 a0_0,.int .i64 a0_1,.int .i64 a0_2,.slice A0_3 l0_3.length c0_3,.slice A0_4 l0_4.length c0_4]) (t := 43) ?hr ?_;(case hd => rfl);(case hg => rfl);(case hr => first|(go_simp;done)|(go_simp;rfl));intro gb190 hg w127 hbox hb;have n0_ := Aside0.mk (below_step (by repeat (first|(with_reducible first|exact HB.out|apply below_alloc|apply pw_below_drewN|apply below_drew1)|exact HB.out)) hb);have n1_ := Aside0.mk (hbox);have n2_ := Aside0.mk ((by rw [hg];exact (below_size (by repeat (first|(with_reducible first|exact HB.out|apply below_alloc|apply pw_below_drewN|apply below_drew1)|exact HB.out))) : w.heap.size ≤ gb190));have n3_ := Aside0.mk ((by rw [hg];exact (below_size (by repeat (first|(with_reducible first|exact HB.out|apply below_alloc|apply pw_below_drewN|apply below_drew1)|exact HB.out))) : w.heap.size ≤ gb190));clear HB;have HB := n0_;have BK190 := n1_;have GW190 := n2_;have GE190 := n3_;clear n0_ n1_ n2_ n3_;clear hb hbox hg)|((with_reducible refine gate_dst (N := 5) rfl ?_);(try (refine gate_guard (by rfl) ?_;dsimp only));refine box_event ?hg (N := 5) ?hd (cs := #[.int .i64 a1_0,.int .i64 a1_1,.int .i64 a1_2,.slice A1_3 l1_3.length c1_3,.slice A1_4 l1_4.length c1_4]) (t := 43) ?hr ?_;(case hd => rfl);(case hg => rfl);(case hr => first|(go_simp;done)|(go_simp;rfl));intro gb191 hg w128 hbox hb;have n0_ := Aside0.mk (blk_below (g := gb190) (o := .cells #[.int .i64 a0_0,.int .i64 a0_1,.int .i64 a0_2,.slice A0_3 l0_3.length c0_3,.slice A0_4 l0_4.length c0_4] 43 (0,0)) (by (with_reducible repeat (first|refine blk_drewN ?_ _|refine blk_drew ?_|refine blk_alloc ?_ _));exact BK190.out) hb);have n1_ := Aside0.mk (below_step (by repeat (first|(with_reducible first|exact HB.out|apply below_alloc|apply pw_below_drewN|apply below_drew1|refine below_set ?_ GE190.out)|exact HB.out)) hb);have n2_ := Aside0.mk (hbox);have n3_ := Aside0.mk ((by rw [hg];exact (below_size (by repeat (first|(with_reducible first|exact HB.out|apply below_alloc|apply pw_below_drewN|apply below_drew1|refine below_set ?_ GE190.out)|exact HB.out))) : w.heap.size ≤ gb191));have n4_ := Aside0.mk ((by rw [hg];exact (below_size (by repeat (first|(with_reducible first|exact HB.out|apply below_alloc|apply pw_below_drewN|apply below_drew1|refine below_set ?_ GE190.out)|exact HB.out))) : w.heap.size ≤ gb191));have n5_ := Aside0.mk ((by rw [hg];exact Nat.ne_of_lt (blk_lt (g := gb190) (o := .cells #[.int .i64 a0_0,.int .i64 a0_1,.int .i64 a0_2,.slice A0_3 l0_3.length c0_3,.slice A0_4 l0_4.length c0_4] 43 (0,0)) (by (with_reducible repeat (first|refine blk_drewN ?_ _|refine blk_drew ?_|refine blk_alloc ?_ _));exact BK190.out)) : gb190 ≠ gb191));have n6_ := Aside0.mk ((by rw [hg];exact Nat.ne_of_gt (blk_lt (g := gb190) (o := .cells #[.int .i64 a0_0,.int .i64 a0_1,.int .i64 a0_2,.slice A0_3 l0_3.length c0_3,.slice A0_4 l0_4.length c0_4] 43 (0,0)) (by (with_reducible repeat (first|refine blk_drewN ?_ _|refine blk_drew ?_|refine blk_alloc ?_ _));exact BK190.out)) : gb191 ≠ gb190));clear BK190;clear HB;have BK190 := n0_;have HB := n1_;have BK191 := n2_;have GW191 := n3_;have GE191 := n4_;have NB190_191 := n5_;have NB191_190 := n6_;clear n0_ n1_ n2_ n3_ n4_ n5_ n6_;clear hb hbox hg)|((with_reducible refine gate_callee (f := 23) rfl ?_);refine goesL_ (some 18) rfl rfl Try.func23 (by kernel_rfl) rfl #[] rfl (by (try simp only [List.map_toArray,List.map_cons,List.map_nil]);first | done | rfl|(simp only [List.length_drop,List.length_take];rfl)) ?_;(with_reducible refine (incipitlaw19_begun.calls k  true _ rfl A5.out).mono ?_);rintro e w129 ⟨rfl,hb⟩;refine ⟨_,rfl,?_⟩;have n0_ := Aside0.mk (blk_below (g := gb190) (o := .cells #[.int .i64 a0_0,.int .i64 a0_1,.int .i64 a0_2,.slice A0_3 l0_3.length c0_3,.slice A0_4 l0_4.length c0_4] 43 (0,0)) (by (with_reducible repeat (first|refine blk_drewN ?_ _|refine blk_drew ?_|refine blk_alloc ?_ _));exact BK190.out) hb);have n1_ := Aside0.mk (blk_below (g := gb191) (o := .cells #[.int .i64 a1_0,.int .i64 a1_1,.int .i64 a1_2,.slice A1_3 l1_3.length c1_3,.slice A1_4 l1_4.length c1_4] 43 (0,0)) (by (with_reducible repeat (first|refine blk_drewN ?_ _|refine blk_drew ?_|refine blk_alloc ?_ _));exact BK191.out) hb);have n2_ := Aside0.mk (below_step (by repeat (first|(with_reducible first|exact HB.out|apply below_alloc|apply pw_below_drewN|apply below_drew1|refine below_set ?_ GE190.out|refine below_set ?_ GE191.out)|exact HB.out)) hb);clear BK190;clear BK191;clear HB;have BK190 := n0_;have BK191 := n1_;have HB := n2_;clear n0_ n1_ n2_;(try clear hb);(try clear hb2);(try clear hk);(try clear hi)))
     have n0_ := Aside0.mk (blk_drew BK190.out)
     have n1_ := Aside0.mk (blk_drew BK191.out)
     have n2_ := Aside0.mk (below_drew1 HB.out)
     clear BK190
     clear BK191
     clear HB
     have BK190 := n0_
     have BK191 := n1_
     have HB := n2_
     clear n0_ n1_ n2_
     refine start_ (n := 6) (S := fun w' => w'.cell? ⟨gb190,0,none⟩ = some (.int .i64 a0_0) ∧ w'.cell? ⟨gb190,1,none⟩ = some (.int .i64 a0_1) ∧ w'.cell? ⟨gb190,2,none⟩ = some (.int .i64 a0_2) ∧ w'.cell? ⟨gb190,3,none⟩ = some (.slice A0_3 l0_3.length c0_3) ∧ w'.cell? ⟨gb190,4,none⟩ = some (.slice A0_4 l0_4.length c0_4) ∧ w'.cell? ⟨gb191,0,none⟩ = some (.int .i64 a1_0) ∧ w'.cell? ⟨gb191,1,none⟩ = some (.int .i64 a1_1) ∧ w'.cell? ⟨gb191,2,none⟩ = some (.int .i64 a1_2) ∧ w'.cell? ⟨gb191,3,none⟩ = some (.slice A1_3 l1_3.length c1_3) ∧ w'.cell? ⟨gb191,4,none⟩ = some (.slice A1_4 l1_4.length c1_4)) (ds := [4,5]) #[false,false,false,false,false,false] (by kernel_rfl) rfl rfl ⟨(blk_cell BK190.out 0).trans rfl,(blk_cell BK190.out 1).trans rfl,(blk_cell BK190.out 2).trans rfl,(blk_cell BK190.out 3).trans rfl,(blk_cell BK190.out 4).trans rfl,(blk_cell BK191.out 0).trans rfl,(blk_cell BK191.out 1).trans rfl,(blk_cell BK191.out 2).trans rfl,(blk_cell BK191.out 3).trans rfl,(blk_cell BK191.out 4).trans rfl⟩ (fun hHeld => ?_)
     generalize w129.drew = w130 at BK190 BK191 HB hHeld ⊢
     refine take_ (i := 0) (N := some 21) (v := ?_) (a' := ?_) #[true,false,false,false,false,false] rfl rfl (by kernel_rfl) (fun _ _ _ h => h) (Or.inl ⟨by rfl,?_⟩) hHeld ?_ ?_
     rotate_left
     ·rintro w' ⟨s0,s1,s2,s3,s4,s5,s6,s7,s8,s9⟩
      go_simp
      with_reducible rfl
     rotate_left
     ·simp only [Act.put,List.setIfInBounds_toArray,List.set_cons_zero,List.set_cons_succ,i64_w,i32_w]
      rfl
     refine take_ (i := 2) (N := some 23) (v := ?_) (a' := ?_) #[true,false,true,false,false,false] rfl rfl (by kernel_rfl) (fun _ _ _ h => h) (Or.inl ⟨by rfl,?_⟩) hHeld ?_ ?_
     rotate_left
     ·rintro w' ⟨s0,s1,s2,s3,s4,s5,s6,s7,s8,s9⟩
      go_simp
      with_reducible rfl
     rotate_left
     ·simp only [Act.put,List.setIfInBounds_toArray,List.set_cons_zero,List.set_cons_succ,i64_w,i32_w]
      rfl
     refine one_ (i := 1) (N := some 22) #[true,true,true,false,false,false] rfl rfl (by kernel_rfl) (by decide) (fun K hK => ?_)
     refine goes_ Try.func24 (by kernel_rfl) rfl #[.agg #[.int .i64 a0_0,.int .i64 a0_1,.int .i64 a0_2,.slice A0_3 l0_3.length c0_3,.slice A0_4 l0_4.length c0_4]] (by rfl) rfl rfl (by (try simp only [List.map_toArray,List.map_cons,List.map_nil]);first | done | rfl|(simp only [List.length_drop,List.length_take];rfl)) ?_
     with_reducible refine (incipitlaw19_Cut.calls k a0_0 a0_1 a0_2 (fun k_ => k_ < w.heap.size) _ _ l0_3 (fun k_ => k_ < w.heap.size) _ _ l0_4 t193 t194 t195 t196 t199 _ ?side1 ?side2 A7.out).mono ?_
     (case side1 => exact Kd.V_mk HC0_3.out (Kd.F_below (Kd.C_F k55_heap HR0_3.out) (by repeat (first|(with_reducible first|exact HB.out|apply below_alloc|apply pw_below_drewN|apply below_drew1|refine below_set ?_ GE190.out|refine below_set ?_ GE191.out)|exact HB.out))))
     (case side2 => exact Kd.V_mk HC0_4.out (Kd.F_below (Kd.C_F (Kd.heap_int .i64) HR0_4.out) (by repeat (first|(with_reducible first|exact HB.out|apply below_alloc|apply pw_below_drewN|apply below_drew1|refine below_set ?_ GE190.out|refine below_set ?_ GE191.out)|exact HB.out))))
     rintro e w131 ⟨v197,v200,rfl,ho0,ho1,hb⟩
     refine ⟨_,rfl,?_⟩
     have n0_ := Aside0.mk (Kd.R_lower (Kd.R_mono (ok' := fun k_ => True) ho0 (fun _ hk_ => trivial)) (below_size (by repeat (first|(with_reducible first|exact HB.out|apply below_alloc|apply pw_below_drewN|apply below_drew1|refine below_set ?_ GE190.out|refine below_set ?_ GE191.out)|exact HB.out))))
     have n1_ := Aside0.mk (Kd.V_lower (Kd.V_mono (ok' := fun k_ => some k_ ≠ (v197 : Value).ownBlock ∧ k_ ≠ gb190 ∧ k_ ≠ gb191) ho1 (fun k_ hk_ => ⟨hk_.2,Or.elim hk_.1 (fun hs_ => Or.elim hs_ (fun hs_ => fun e_ => Nat.not_le.2 hs_ (by rw [e_];exact GW190.out)) (fun hs_ => fun e_ => Nat.not_le.2 hs_ (by rw [e_];exact GW190.out))) (fun hn_ => (Kd.freshB (g := gb190) (o := .cells #[.int .i64 a0_0,.int .i64 a0_1,.int .i64 a0_2,.slice A0_3 l0_3.length c0_3,.slice A0_4 l0_4.length c0_4] 43 (0,0)) (by (with_reducible repeat (first|refine blk_drewN ?_ _|refine blk_drew ?_|refine blk_alloc ?_ _));exact BK190.out) k_ hn_)),Or.elim hk_.1 (fun hs_ => Or.elim hs_ (fun hs_ => fun e_ => Nat.not_le.2 hs_ (by rw [e_];exact GW191.out)) (fun hs_ => fun e_ => Nat.not_le.2 hs_ (by rw [e_];exact GW191.out))) (fun hn_ => (Kd.freshB (g := gb191) (o := .cells #[.int .i64 a1_0,.int .i64 a1_1,.int .i64 a1_2,.slice A1_3 l1_3.length c1_3,.slice A1_4 l1_4.length c1_4] 43 (0,0)) (by (with_reducible repeat (first|refine blk_drewN ?_ _|refine blk_drew ?_|refine blk_alloc ?_ _));exact BK191.out) k_ hn_))⟩)) (below_size (by repeat (first|(with_reducible first|exact HB.out|apply below_alloc|apply pw_below_drewN|apply below_drew1|refine below_set ?_ GE190.out|refine below_set ?_ GE191.out)|exact HB.out))))
     have n2_ := Aside0.mk (blk_below (g := gb190) (o := .cells #[.int .i64 a0_0,.int .i64 a0_1,.int .i64 a0_2,.slice A0_3 l0_3.length c0_3,.slice A0_4 l0_4.length c0_4] 43 (0,0)) (by (with_reducible repeat (first|refine blk_drewN ?_ _|refine blk_drew ?_|refine blk_alloc ?_ _));exact BK190.out) hb)
     have n3_ := Aside0.mk (blk_below (g := gb191) (o := .cells #[.int .i64 a1_0,.int .i64 a1_1,.int .i64 a1_2,.slice A1_3 l1_3.length c1_3,.slice A1_4 l1_4.length c1_4] 43 (0,0)) (by (with_reducible repeat (first|refine blk_drewN ?_ _|refine blk_drew ?_|refine blk_alloc ?_ _));exact BK191.out) hb)
     have n4_ := Aside0.mk (below_step (by repeat (first|(with_reducible first|exact HB.out|apply below_alloc|apply pw_below_drewN|apply below_drew1|refine below_set ?_ GE190.out|refine below_set ?_ GE191.out)|exact HB.out)) hb)
     clear BK190
     clear BK191
     clear HB
     have HO198 := n0_
     have HO201 := n1_
     have BK190 := n2_
     have BK191 := n3_
     have HB := n4_
     clear n0_ n1_ n2_ n3_ n4_
     (try clear hb)
     (try clear hb2)
     (try clear hk)
     (try clear hi)
     (try clear ho0)
     (try clear ho1)
     refine hK.out _ _ ⟨(blk_cell BK190.out 0).trans rfl,(blk_cell BK190.out 1).trans rfl,(blk_cell BK190.out 2).trans rfl,(blk_cell BK190.out 3).trans rfl,(blk_cell BK190.out 4).trans rfl,(blk_cell BK191.out 0).trans rfl,(blk_cell BK191.out 1).trans rfl,(blk_cell BK191.out 2).trans rfl,(blk_cell BK191.out 3).trans rfl,(blk_cell BK191.out 4).trans rfl⟩ (fun hHeld => ?_)
     clear hK K
     refine norm_ (a' := ?_) ?_ ?_
     rotate_left
     ·show Act.put _ (some 22) _ = _
      simp only [Act.put,List.setIfInBounds_toArray,List.set_cons_zero,List.set_cons_succ,i64_w,i32_w]
      rfl
     refine one_ (i := 3) (N := some 24) #[true,true,true,true,false,false] rfl rfl (by kernel_rfl) (by decide) (fun K hK => ?_)
     refine goes_ Try.func24 (by kernel_rfl) rfl #[.agg #[.int .i64 a1_0,.int .i64 a1_1,.int .i64 a1_2,.slice A1_3 l1_3.length c1_3,.slice A1_4 l1_4.length c1_4]] (by rfl) rfl rfl (by (try simp only [List.map_toArray,List.map_cons,List.map_nil]);first | done | rfl|(simp only [List.length_drop,List.length_take];rfl)) ?_
     with_reducible refine (incipitlaw19_Cut.calls k a1_0 a1_1 a1_2 (fun k_ => k_ < w.heap.size) _ _ l1_3 (fun k_ => k_ < w.heap.size) _ _ l1_4 t202 t203 t204 t205 t208 _ ?side1 ?side2 A8.out).mono ?_
     (case side1 => exact Kd.V_mk HC1_3.out (Kd.F_below (Kd.C_F k55_heap HR1_3.out) (by repeat (first|(with_reducible first|exact HB.out|apply below_alloc|apply pw_below_drewN|apply below_drew1|refine below_set ?_ GE190.out|refine below_set ?_ GE191.out)|exact HB.out))))
     (case side2 => exact Kd.V_mk HC1_4.out (Kd.F_below (Kd.C_F (Kd.heap_int .i64) HR1_4.out) (by repeat (first|(with_reducible first|exact HB.out|apply below_alloc|apply pw_below_drewN|apply below_drew1|refine below_set ?_ GE190.out|refine below_set ?_ GE191.out)|exact HB.out))))
     rintro e w132 ⟨v206,v209,rfl,ho0,ho1,hb⟩
     refine ⟨_,rfl,?_⟩
     have n0_ := Aside0.mk (Kd.R_elder' (by (with_reducible repeat (first|apply Kd.R_alloc|apply Kd.R_drewN|apply Kd.R_drew));exact HO198.out) (Kd.R_base ho0) hb)
     have n1_ := Aside0.mk (Kd.V_elder' (by (with_reducible repeat (first|apply Kd.V_alloc|apply Kd.V_drewN|apply Kd.V_drew));exact HO201.out) (Kd.R_base ho0) hb)
     have n2_ := Aside0.mk (Kd.R_lower (Kd.R_new' (Kd.R_mono (ok' := fun k_ => True) ho0 (fun _ hk_ => trivial)) (Kd.R_lt (by (with_reducible repeat (first|apply Kd.R_alloc|apply Kd.R_drewN|apply Kd.R_drew));exact HO198.out))) (below_size (by repeat (first|(with_reducible first|exact HB.out|apply below_alloc|apply pw_below_drewN|apply below_drew1|refine below_set ?_ GE190.out|refine below_set ?_ GE191.out)|exact HB.out))))
     have n3_ := Aside0.mk (Kd.V_lower (Kd.V_mono (ok' := fun k_ => some k_ ≠ (v206 : Value).ownBlock ∧ some k_ ≠ (v197 : Value).ownBlock ∧ k_ ≠ gb190 ∧ k_ ≠ gb191) ho1 (fun k_ hk_ => ⟨hk_.2,Or.elim hk_.1 (fun hs_ => Or.elim hs_ (fun hs_ => fun e_ => Nat.not_le.2 hs_ (Kd.R_base HO198.out k_ e_.symm)) (fun hs_ => fun e_ => Nat.not_le.2 hs_ (Kd.R_base HO198.out k_ e_.symm))) (fun hn_ => (Kd.fresh' (Kd.R_lt (by (with_reducible repeat (first|apply Kd.R_alloc|apply Kd.R_drewN|apply Kd.R_drew));exact HO198.out)) k_ hn_)),Or.elim hk_.1 (fun hs_ => Or.elim hs_ (fun hs_ => fun e_ => Nat.not_le.2 hs_ (by rw [e_];exact GW190.out)) (fun hs_ => fun e_ => Nat.not_le.2 hs_ (by rw [e_];exact GW190.out))) (fun hn_ => (Kd.freshB (g := gb190) (o := .cells #[.int .i64 a0_0,.int .i64 a0_1,.int .i64 a0_2,.slice A0_3 l0_3.length c0_3,.slice A0_4 l0_4.length c0_4] 43 (0,0)) (by (with_reducible repeat (first|refine blk_drewN ?_ _|refine blk_drew ?_|refine blk_alloc ?_ _));exact BK190.out) k_ hn_)),Or.elim hk_.1 (fun hs_ => Or.elim hs_ (fun hs_ => fun e_ => Nat.not_le.2 hs_ (by rw [e_];exact GW191.out)) (fun hs_ => fun e_ => Nat.not_le.2 hs_ (by rw [e_];exact GW191.out))) (fun hn_ => (Kd.freshB (g := gb191) (o := .cells #[.int .i64 a1_0,.int .i64 a1_1,.int .i64 a1_2,.slice A1_3 l1_3.length c1_3,.slice A1_4 l1_4.length c1_4] 43 (0,0)) (by (with_reducible repeat (first|refine blk_drewN ?_ _|refine blk_drew ?_|refine blk_alloc ?_ _));exact BK191.out) k_ hn_))⟩)) (below_size (by repeat (first|(with_reducible first|exact HB.out|apply below_alloc|apply pw_below_drewN|apply below_drew1|refine below_set ?_ GE190.out|refine below_set ?_ GE191.out)|exact HB.out))))
     have n4_ := Aside0.mk (blk_below (g := gb190) (o := .cells #[.int .i64 a0_0,.int .i64 a0_1,.int .i64 a0_2,.slice A0_3 l0_3.length c0_3,.slice A0_4 l0_4.length c0_4] 43 (0,0)) (by (with_reducible repeat (first|refine blk_drewN ?_ _|refine blk_drew ?_|refine blk_alloc ?_ _));exact BK190.out) hb)
     have n5_ := Aside0.mk (blk_below (g := gb191) (o := .cells #[.int .i64 a1_0,.int .i64 a1_1,.int .i64 a1_2,.slice A1_3 l1_3.length c1_3,.slice A1_4 l1_4.length c1_4] 43 (0,0)) (by (with_reducible repeat (first|refine blk_drewN ?_ _|refine blk_drew ?_|refine blk_alloc ?_ _));exact BK191.out) hb)
     have n6_ := Aside0.mk (below_step (by repeat (first|(with_reducible first|exact HB.out|apply below_alloc|apply pw_below_drewN|apply below_drew1|refine below_set ?_ GE190.out|refine below_set ?_ GE191.out)|exact HB.out)) hb)
     clear HO198
     clear HO201
     clear BK190
     clear BK191
     clear HB
     have HO198 := n0_
     have HO201 := n1_
     have HO207 := n2_
     have HO210 := n3_
     have BK190 := n4_
     have BK191 := n5_
     have HB := n6_
     clear n0_ n1_ n2_ n3_ n4_ n5_ n6_
     (try clear hb)
     (try clear hb2)
     (try clear hk)
     (try clear hi)
     (try clear ho0)
     (try clear ho1)
     obtain ⟨Ao136,co136,eo136⟩ := Kd.R_slice HO198.out
     (first | subst eo136|(injection eo136 with f1_ f2_ f3_;have f4_ := f1_.symm;have f5_ := f3_.symm;clear f1_ f2_ f3_;subst f4_;subst f5_))
     obtain ⟨Ao138,co138,eo138⟩ := Kd.V_slice HO201.out
     (first | subst eo138|(injection eo138 with f1_ f2_ f3_;have f4_ := f1_.symm;have f5_ := f3_.symm;clear f1_ f2_ f3_;subst f4_;subst f5_))
     obtain ⟨Ao143,co143,eo143⟩ := Kd.R_slice HO207.out
     (first | subst eo143|(injection eo143 with f1_ f2_ f3_;have f4_ := f1_.symm;have f5_ := f3_.symm;clear f1_ f2_ f3_;subst f4_;subst f5_))
     obtain ⟨Ao145,co145,eo145⟩ := Kd.V_slice HO210.out
     (first | subst eo145|(injection eo145 with f1_ f2_ f3_;have f4_ := f1_.symm;have f5_ := f3_.symm;clear f1_ f2_ f3_;subst f4_;subst f5_))
     refine hK.out _ _ ⟨(blk_cell BK190.out 0).trans rfl,(blk_cell BK190.out 1).trans rfl,(blk_cell BK190.out 2).trans rfl,(blk_cell BK190.out 3).trans rfl,(blk_cell BK190.out 4).trans rfl,(blk_cell BK191.out 0).trans rfl,(blk_cell BK191.out 1).trans rfl,(blk_cell BK191.out 2).trans rfl,(blk_cell BK191.out 3).trans rfl,(blk_cell BK191.out 4).trans rfl⟩ (fun hHeld => ?_)
     clear hK K
     refine norm_ (a' := ?_) ?_ ?_
     rotate_left
     ·show Act.put _ (some 24) _ = _
      simp only [Act.put,List.setIfInBounds_toArray,List.set_cons_zero,List.set_cons_succ,i64_w,i32_w]
      rfl
     refine last_ (i := 4) (N := none) #[true,true,true,true,true,false] rfl rfl (by kernel_rfl) (by decide) (fun K hK => ?_)
     have hs133 : w132.cell? ⟨gb190,0,none⟩ = some (.int .i64 a0_0) := (blk_cell BK190.out 0).trans rfl
     have hfs133 := blk_frozen BK190.out 0
     have hns133_1 := NB191_190.out
     have hms133_1 := NB190_191.out
     have hs134 : w132.cell? ⟨gb190,1,none⟩ = some (.int .i64 a0_1) := (blk_cell BK190.out 1).trans rfl
     have hfs134 := blk_frozen BK190.out 1
     have hns134_1 := NB191_190.out
     have hms134_1 := NB190_191.out
     have hs135 : w132.cell? ⟨gb190,2,none⟩ = some (.int .i64 a0_2) := (blk_cell BK190.out 2).trans rfl
     have hfs135 := blk_frozen BK190.out 2
     have hns135_1 := NB191_190.out
     have hms135_1 := NB190_191.out
     have hs137 : w132.cell? ⟨gb190,3,none⟩ = some (.slice A0_3 l0_3.length c0_3) := (blk_cell BK190.out 3).trans rfl
     have hfs137 := blk_frozen BK190.out 3
     have hns137_1 := NB191_190.out
     have hms137_1 := NB190_191.out
     have hs139 : w132.cell? ⟨gb190,4,none⟩ = some (.slice A0_4 l0_4.length c0_4) := (blk_cell BK190.out 4).trans rfl
     have hfs139 := blk_frozen BK190.out 4
     have hns139_1 := NB191_190.out
     have hms139_1 := NB190_191.out
     refine skip_ (w1 := ?_) (by rfl) rfl ?_ ?_
     rotate_left
     ·go_simp
      rfl
     refine hK.out _ _ ?_
     clear hK K
     refine last_ (i := 5) (N := none) #[true,true,true,true,true,true] rfl rfl (by kernel_rfl) (by decide) (fun K hK => ?_)
     have hs140 : w132.cell? ⟨gb191,0,none⟩ = some (.int .i64 a1_0) := (blk_cell BK191.out 0).trans rfl
     have hfs140 := blk_frozen BK191.out 0
     have hns140_0 := NB190_191.out
     have hms140_0 := NB191_190.out
     have hs141 : w132.cell? ⟨gb191,1,none⟩ = some (.int .i64 a1_1) := (blk_cell BK191.out 1).trans rfl
     have hfs141 := blk_frozen BK191.out 1
     have hns141_0 := NB190_191.out
     have hms141_0 := NB191_190.out
     have hs142 : w132.cell? ⟨gb191,2,none⟩ = some (.int .i64 a1_2) := (blk_cell BK191.out 2).trans rfl
     have hfs142 := blk_frozen BK191.out 2
     have hns142_0 := NB190_191.out
     have hms142_0 := NB191_190.out
     have hs144 : w132.cell? ⟨gb191,3,none⟩ = some (.slice A1_3 l1_3.length c1_3) := (blk_cell BK191.out 3).trans rfl
     have hfs144 := blk_frozen BK191.out 3
     have hns144_0 := NB190_191.out
     have hms144_0 := NB191_190.out
     have hs146 : w132.cell? ⟨gb191,4,none⟩ = some (.slice A1_4 l1_4.length c1_4) := (blk_cell BK191.out 4).trans rfl
     have hfs146 := blk_frozen BK191.out 4
     have hns146_0 := NB190_191.out
     have hms146_0 := NB191_190.out
     refine skip_ (w1 := ?_) (by rfl) rfl ?_ ?_
     rotate_left
     ·go_simp
      rfl
     refine hK.out _ _ ?_
     clear hK K
     refine done_ (by kernel_rfl) ?_
     have hnb147 := NB190_191.out
     have hnc147 := NB191_190.out
     have hcz148_0 : w132.cell? ⟨gb190,0,none⟩ = some (.int .i64 a0_0) := (blk_cell BK190.out 0).trans rfl
     have hcz148_1 : w132.cell? ⟨gb190,1,none⟩ = some (.int .i64 a0_1) := (blk_cell BK190.out 1).trans rfl
     have hcz148_2 : w132.cell? ⟨gb190,2,none⟩ = some (.int .i64 a0_2) := (blk_cell BK190.out 2).trans rfl
     have hcz148_3 : w132.cell? ⟨gb190,3,none⟩ = some (.slice A0_3 l0_3.length c0_3) := (blk_cell BK190.out 3).trans rfl
     have hcz148_4 : w132.cell? ⟨gb190,4,none⟩ = some (.slice A0_4 l0_4.length c0_4) := (blk_cell BK190.out 4).trans rfl
     have hfz148_0 := blk_frozen BK190.out 0
     have hfz148_1 := blk_frozen BK190.out 1
     have hfz148_2 := blk_frozen BK190.out 2
     have hfz148_3 := blk_frozen BK190.out 3
     have hfz148_4 := blk_frozen BK190.out 4
     try go_wp2_with (first|((with_reducible refine gate_callee (f := 25) rfl ?_);refine goesL_ (some 27) rfl rfl Try.func25 (by kernel_rfl) rfl #[.agg #[.int .i64 t193,.int .i64 t194,.int .i64 t195,.slice Ao136 t196.length co136,.slice Ao138 t199.length co138]] rfl (by (try simp only [List.map_toArray,List.map_cons,List.map_nil]);first | done | rfl|(simp only [List.length_drop,List.length_take];rfl)) ?_;(with_reducible refine (edit_Encode.calls k t193 t194 t195 _ _ t196 _ _ t199 t211 t214 _ ?side1 ?side2 ?side3 ?side4 A9.out).mono ?_);(case side1 => refine (Kd.R_reads' (e := 55) (base := w.heap.size) (ok := fun k_ => (True ∧ some k_ ≠ (.slice Ao143 t205.length co143 : Value).ownBlock)) (n := t196.length) (c := co136) ?_).2.2;exact (by (with_reducible repeat (first|apply Kd.R_alloc|apply Kd.R_drewN|apply Kd.R_drew));exact (Kd.R_mono (Kd.R_mono (Kd.R_far (p := ⟨gb191,4,none⟩) (Kd.R_far (p := ⟨gb191,3,none⟩) (Kd.R_far (p := ⟨gb191,2,none⟩) (Kd.R_far (p := ⟨gb191,1,none⟩) (Kd.R_far (p := ⟨gb191,0,none⟩) (Kd.R_far (p := ⟨gb190,4,none⟩) (Kd.R_far (p := ⟨gb190,3,none⟩) (Kd.R_far (p := ⟨gb190,2,none⟩) (Kd.R_far (p := ⟨gb190,1,none⟩) (Kd.R_far (p := ⟨gb190,0,none⟩) (Kd.R_types (Kd.R_types HO198.out BK190.out (by decide)) BK191.out (by decide)) (fun _ hk => hk.1.2) (.int .i64 t193)) (fun _ hk => hk.1.2) (.int .i64 t194)) (fun _ hk => hk.1.2) (.int .i64 t195)) (fun _ hk => hk.1.2) (.slice Ao136 t196.length co136)) (fun _ hk => hk.1.2) (.slice Ao138 t199.length co138)) (fun _ hk => hk.2) (.int .i64 t202)) (fun _ hk => hk.2) (.int .i64 t203)) (fun _ hk => hk.2) (.int .i64 t204)) (fun _ hk => hk.2) (.slice Ao143 t205.length co143)) (fun _ hk => hk.2) (.slice Ao145 t208.length co145)) (fun _ h_ => h_.1)) (fun _ h_ => h_.1))));(case side2 => exact (Kd.R_reads' HO198.out).2.1);(case side3 => refine (Kd.V_reads' (e := 2) (base := w.heap.size) (ok := fun k_ => ((some k_ ≠ (.slice Ao136 t196.length co136 : Value).ownBlock ∧ (k_ ≠ gb190 ∧ k_ ≠ gb191)) ∧ some k_ ≠ (.slice Ao143 t205.length co143 : Value).ownBlock)) (n := t199.length) (c := co138) ?_).2.2;exact (by (with_reducible repeat (first|apply Kd.V_alloc|apply Kd.V_drewN|apply Kd.V_drew));exact (Kd.V_mono (Kd.V_mono (Kd.V_far (p := ⟨gb191,4,none⟩) (Kd.V_far (p := ⟨gb191,3,none⟩) (Kd.V_far (p := ⟨gb191,2,none⟩) (Kd.V_far (p := ⟨gb191,1,none⟩) (Kd.V_far (p := ⟨gb191,0,none⟩) (Kd.V_far (p := ⟨gb190,4,none⟩) (Kd.V_far (p := ⟨gb190,3,none⟩) (Kd.V_far (p := ⟨gb190,2,none⟩) (Kd.V_far (p := ⟨gb190,1,none⟩) (Kd.V_far (p := ⟨gb190,0,none⟩) (Kd.V_mono (Kd.V_mono HO201.out (fun k_ hk => (⟨hk,hk.1.2.1⟩ : _ ∧ k_ ≠ gb190))) (fun k_ hk => (⟨hk,hk.1.1.2.2⟩ : _ ∧ k_ ≠ gb191))) (fun _ hk => hk.1.2) (.int .i64 t193)) (fun _ hk => hk.1.2) (.int .i64 t194)) (fun _ hk => hk.1.2) (.int .i64 t195)) (fun _ hk => hk.1.2) (.slice Ao136 t196.length co136)) (fun _ hk => hk.1.2) (.slice Ao138 t199.length co138)) (fun _ hk => hk.2) (.int .i64 t202)) (fun _ hk => hk.2) (.int .i64 t203)) (fun _ hk => hk.2) (.int .i64 t204)) (fun _ hk => hk.2) (.slice Ao143 t205.length co143)) (fun _ hk => hk.2) (.slice Ao145 t208.length co145)) (fun _ h_ => h_.1)) (fun _ h_ => h_.1))));(case side4 => exact (Kd.V_reads' HO201.out).2.1);rintro e w149 ⟨v212,rfl,ho0,hb⟩;refine ⟨_,rfl,?_⟩;have n0_ := Aside0.mk (Kd.R_below (by (with_reducible repeat (first|apply Kd.R_alloc|apply Kd.R_drewN|apply Kd.R_drew));exact (Kd.R_mono (Kd.R_mono (Kd.R_far (p := ⟨gb191,4,none⟩) (Kd.R_far (p := ⟨gb191,3,none⟩) (Kd.R_far (p := ⟨gb191,2,none⟩) (Kd.R_far (p := ⟨gb191,1,none⟩) (Kd.R_far (p := ⟨gb191,0,none⟩) (Kd.R_far (p := ⟨gb190,4,none⟩) (Kd.R_far (p := ⟨gb190,3,none⟩) (Kd.R_far (p := ⟨gb190,2,none⟩) (Kd.R_far (p := ⟨gb190,1,none⟩) (Kd.R_far (p := ⟨gb190,0,none⟩) (Kd.R_types (Kd.R_types HO198.out BK190.out (by decide)) BK191.out (by decide)) (fun _ hk => hk.1.2) (.int .i64 t193)) (fun _ hk => hk.1.2) (.int .i64 t194)) (fun _ hk => hk.1.2) (.int .i64 t195)) (fun _ hk => hk.1.2) (.slice Ao136 t196.length co136)) (fun _ hk => hk.1.2) (.slice Ao138 t199.length co138)) (fun _ hk => hk.2) (.int .i64 t202)) (fun _ hk => hk.2) (.int .i64 t203)) (fun _ hk => hk.2) (.int .i64 t204)) (fun _ hk => hk.2) (.slice Ao143 t205.length co143)) (fun _ hk => hk.2) (.slice Ao145 t208.length co145)) (fun _ h_ => h_.1)) (fun _ h_ => h_.1))) hb);have n1_ := Aside0.mk (Kd.V_elder' (by (with_reducible repeat (first|apply Kd.V_alloc|apply Kd.V_drewN|apply Kd.V_drew));exact (Kd.V_mono (Kd.V_mono (Kd.V_far (p := ⟨gb191,4,none⟩) (Kd.V_far (p := ⟨gb191,3,none⟩) (Kd.V_far (p := ⟨gb191,2,none⟩) (Kd.V_far (p := ⟨gb191,1,none⟩) (Kd.V_far (p := ⟨gb191,0,none⟩) (Kd.V_far (p := ⟨gb190,4,none⟩) (Kd.V_far (p := ⟨gb190,3,none⟩) (Kd.V_far (p := ⟨gb190,2,none⟩) (Kd.V_far (p := ⟨gb190,1,none⟩) (Kd.V_far (p := ⟨gb190,0,none⟩) (Kd.V_mono (Kd.V_mono HO201.out (fun k_ hk => (⟨hk,hk.1.2.1⟩ : _ ∧ k_ ≠ gb190))) (fun k_ hk => (⟨hk,hk.1.1.2.2⟩ : _ ∧ k_ ≠ gb191))) (fun _ hk => hk.1.2) (.int .i64 t193)) (fun _ hk => hk.1.2) (.int .i64 t194)) (fun _ hk => hk.1.2) (.int .i64 t195)) (fun _ hk => hk.1.2) (.slice Ao136 t196.length co136)) (fun _ hk => hk.1.2) (.slice Ao138 t199.length co138)) (fun _ hk => hk.2) (.int .i64 t202)) (fun _ hk => hk.2) (.int .i64 t203)) (fun _ hk => hk.2) (.int .i64 t204)) (fun _ hk => hk.2) (.slice Ao143 t205.length co143)) (fun _ hk => hk.2) (.slice Ao145 t208.length co145)) (fun _ h_ => h_.1)) (fun _ h_ => h_.1))) (Kd.R_base ho0) hb);have n2_ := Aside0.mk (Kd.R_below (by (with_reducible repeat (first|apply Kd.R_alloc|apply Kd.R_drewN|apply Kd.R_drew));exact (Kd.R_mono (Kd.R_mono (Kd.R_far (p := ⟨gb191,4,none⟩) (Kd.R_far (p := ⟨gb191,3,none⟩) (Kd.R_far (p := ⟨gb191,2,none⟩) (Kd.R_far (p := ⟨gb191,1,none⟩) (Kd.R_far (p := ⟨gb191,0,none⟩) (Kd.R_far (p := ⟨gb190,4,none⟩) (Kd.R_far (p := ⟨gb190,3,none⟩) (Kd.R_far (p := ⟨gb190,2,none⟩) (Kd.R_far (p := ⟨gb190,1,none⟩) (Kd.R_far (p := ⟨gb190,0,none⟩) (Kd.R_types (Kd.R_types HO207.out BK190.out (by decide)) BK191.out (by decide)) (fun _ hk => hk.1.2) (.int .i64 t193)) (fun _ hk => hk.1.2) (.int .i64 t194)) (fun _ hk => hk.1.2) (.int .i64 t195)) (fun _ hk => hk.1.2) (.slice Ao136 t196.length co136)) (fun _ hk => hk.1.2) (.slice Ao138 t199.length co138)) (fun _ hk => hk.2) (.int .i64 t202)) (fun _ hk => hk.2) (.int .i64 t203)) (fun _ hk => hk.2) (.int .i64 t204)) (fun _ hk => hk.2) (.slice Ao143 t205.length co143)) (fun _ hk => hk.2) (.slice Ao145 t208.length co145)) (fun _ h_ => h_.1)) (fun _ h_ => h_.1))) hb);have n3_ := Aside0.mk (Kd.V_elder' (by (with_reducible repeat (first|apply Kd.V_alloc|apply Kd.V_drewN|apply Kd.V_drew));exact (Kd.V_mono (Kd.V_mono (Kd.V_far (p := ⟨gb191,4,none⟩) (Kd.V_far (p := ⟨gb191,3,none⟩) (Kd.V_far (p := ⟨gb191,2,none⟩) (Kd.V_far (p := ⟨gb191,1,none⟩) (Kd.V_far (p := ⟨gb191,0,none⟩) (Kd.V_far (p := ⟨gb190,4,none⟩) (Kd.V_far (p := ⟨gb190,3,none⟩) (Kd.V_far (p := ⟨gb190,2,none⟩) (Kd.V_far (p := ⟨gb190,1,none⟩) (Kd.V_far (p := ⟨gb190,0,none⟩) (Kd.V_mono (Kd.V_mono HO210.out (fun k_ hk => (⟨hk,hk.2.2.1⟩ : _ ∧ k_ ≠ gb190))) (fun k_ hk => (⟨hk,hk.1.2.2.2⟩ : _ ∧ k_ ≠ gb191))) (fun _ hk => hk.1.2) (.int .i64 t193)) (fun _ hk => hk.1.2) (.int .i64 t194)) (fun _ hk => hk.1.2) (.int .i64 t195)) (fun _ hk => hk.1.2) (.slice Ao136 t196.length co136)) (fun _ hk => hk.1.2) (.slice Ao138 t199.length co138)) (fun _ hk => hk.2) (.int .i64 t202)) (fun _ hk => hk.2) (.int .i64 t203)) (fun _ hk => hk.2) (.int .i64 t204)) (fun _ hk => hk.2) (.slice Ao143 t205.length co143)) (fun _ hk => hk.2) (.slice Ao145 t208.length co145)) (fun _ h_ => h_.1)) (fun _ h_ => h_.1))) (Kd.R_base ho0) hb);have n4_ := Aside0.mk (Kd.R_lower ho0 (below_size (by repeat (first|(with_reducible first|exact HB.out|apply below_alloc|apply pw_below_drewN|apply below_drew1|refine below_set ?_ GE190.out|refine below_set ?_ GE191.out)|exact HB.out))));have n5_ := Aside0.mk (blk_below (g := gb190) (o := .cells #[.int .i64 t193,.int .i64 t194,.int .i64 t195,.slice Ao136 t196.length co136,.slice Ao138 t199.length co138] 43 (0,0)) (by (with_reducible repeat (first|refine blk_drewN ?_ _|refine blk_drew ?_|refine blk_alloc ?_ _));refine blk_far ?_ NB190_191.out _;(with_reducible repeat (first|refine blk_drewN ?_ _|refine blk_drew ?_|refine blk_alloc ?_ _));refine blk_far ?_ NB190_191.out _;(with_reducible repeat (first|refine blk_drewN ?_ _|refine blk_drew ?_|refine blk_alloc ?_ _));refine blk_far ?_ NB190_191.out _;(with_reducible repeat (first|refine blk_drewN ?_ _|refine blk_drew ?_|refine blk_alloc ?_ _));refine blk_far ?_ NB190_191.out _;(with_reducible repeat (first|refine blk_drewN ?_ _|refine blk_drew ?_|refine blk_alloc ?_ _));refine blk_far ?_ NB190_191.out _;(with_reducible repeat (first|refine blk_drewN ?_ _|refine blk_drew ?_|refine blk_alloc ?_ _));refine blk_put (cs := #[.int .i64 t193,.int .i64 t194,.int .i64 t195,.slice Ao136 t196.length co136,.slice A0_4 l0_4.length c0_4]) ?_ 4 _ rfl;(with_reducible repeat (first|refine blk_drewN ?_ _|refine blk_drew ?_|refine blk_alloc ?_ _));refine blk_put (cs := #[.int .i64 t193,.int .i64 t194,.int .i64 t195,.slice A0_3 l0_3.length c0_3,.slice A0_4 l0_4.length c0_4]) ?_ 3 _ rfl;(with_reducible repeat (first|refine blk_drewN ?_ _|refine blk_drew ?_|refine blk_alloc ?_ _));refine blk_put (cs := #[.int .i64 t193,.int .i64 t194,.int .i64 a0_2,.slice A0_3 l0_3.length c0_3,.slice A0_4 l0_4.length c0_4]) ?_ 2 _ rfl;(with_reducible repeat (first|refine blk_drewN ?_ _|refine blk_drew ?_|refine blk_alloc ?_ _));refine blk_put (cs := #[.int .i64 t193,.int .i64 a0_1,.int .i64 a0_2,.slice A0_3 l0_3.length c0_3,.slice A0_4 l0_4.length c0_4]) ?_ 1 _ rfl;(with_reducible repeat (first|refine blk_drewN ?_ _|refine blk_drew ?_|refine blk_alloc ?_ _));refine blk_put (cs := #[.int .i64 a0_0,.int .i64 a0_1,.int .i64 a0_2,.slice A0_3 l0_3.length c0_3,.slice A0_4 l0_4.length c0_4]) ?_ 0 _ rfl;(with_reducible repeat (first|refine blk_drewN ?_ _|refine blk_drew ?_|refine blk_alloc ?_ _));exact BK190.out) hb);have n6_ := Aside0.mk (blk_below (g := gb191) (o := .cells #[.int .i64 t202,.int .i64 t203,.int .i64 t204,.slice Ao143 t205.length co143,.slice Ao145 t208.length co145] 43 (0,0)) (by (with_reducible repeat (first|refine blk_drewN ?_ _|refine blk_drew ?_|refine blk_alloc ?_ _));refine blk_put (cs := #[.int .i64 t202,.int .i64 t203,.int .i64 t204,.slice Ao143 t205.length co143,.slice A1_4 l1_4.length c1_4]) ?_ 4 _ rfl;(with_reducible repeat (first|refine blk_drewN ?_ _|refine blk_drew ?_|refine blk_alloc ?_ _));refine blk_put (cs := #[.int .i64 t202,.int .i64 t203,.int .i64 t204,.slice A1_3 l1_3.length c1_3,.slice A1_4 l1_4.length c1_4]) ?_ 3 _ rfl;(with_reducible repeat (first|refine blk_drewN ?_ _|refine blk_drew ?_|refine blk_alloc ?_ _));refine blk_put (cs := #[.int .i64 t202,.int .i64 t203,.int .i64 a1_2,.slice A1_3 l1_3.length c1_3,.slice A1_4 l1_4.length c1_4]) ?_ 2 _ rfl;(with_reducible repeat (first|refine blk_drewN ?_ _|refine blk_drew ?_|refine blk_alloc ?_ _));refine blk_put (cs := #[.int .i64 t202,.int .i64 a1_1,.int .i64 a1_2,.slice A1_3 l1_3.length c1_3,.slice A1_4 l1_4.length c1_4]) ?_ 1 _ rfl;(with_reducible repeat (first|refine blk_drewN ?_ _|refine blk_drew ?_|refine blk_alloc ?_ _));refine blk_put (cs := #[.int .i64 a1_0,.int .i64 a1_1,.int .i64 a1_2,.slice A1_3 l1_3.length c1_3,.slice A1_4 l1_4.length c1_4]) ?_ 0 _ rfl;(with_reducible repeat (first|refine blk_drewN ?_ _|refine blk_drew ?_|refine blk_alloc ?_ _));refine blk_far ?_ NB191_190.out _;(with_reducible repeat (first|refine blk_drewN ?_ _|refine blk_drew ?_|refine blk_alloc ?_ _));refine blk_far ?_ NB191_190.out _;(with_reducible repeat (first|refine blk_drewN ?_ _|refine blk_drew ?_|refine blk_alloc ?_ _));refine blk_far ?_ NB191_190.out _;(with_reducible repeat (first|refine blk_drewN ?_ _|refine blk_drew ?_|refine blk_alloc ?_ _));refine blk_far ?_ NB191_190.out _;(with_reducible repeat (first|refine blk_drewN ?_ _|refine blk_drew ?_|refine blk_alloc ?_ _));refine blk_far ?_ NB191_190.out _;(with_reducible repeat (first|refine blk_drewN ?_ _|refine blk_drew ?_|refine blk_alloc ?_ _));exact BK191.out) hb);have n7_ := Aside0.mk (below_step (by repeat (first|(with_reducible first|exact HB.out|apply below_alloc|apply pw_below_drewN|apply below_drew1|refine below_set ?_ GE190.out|refine below_set ?_ GE191.out)|exact HB.out)) hb);clear HO198;clear HO201;clear HO207;clear HO210;clear BK190;clear BK191;clear HB;have HO198 := n0_;have HO201 := n1_;have HO207 := n2_;have HO210 := n3_;have HO213 := n4_;have BK190 := n5_;have BK191 := n6_;have HB := n7_;clear n0_ n1_ n2_ n3_ n4_ n5_ n6_ n7_;(try clear hb);(try clear hb2);(try clear hk);(try clear hi);(try clear ho0);have hcz150_0 : w149.cell? ⟨gb190,0,none⟩ = some (.int .i64 t193) := (blk_cell BK190.out 0).trans rfl;have hcz150_1 : w149.cell? ⟨gb190,1,none⟩ = some (.int .i64 t194) := (blk_cell BK190.out 1).trans rfl;have hcz150_2 : w149.cell? ⟨gb190,2,none⟩ = some (.int .i64 t195) := (blk_cell BK190.out 2).trans rfl;have hcz150_3 : w149.cell? ⟨gb190,3,none⟩ = some (.slice Ao136 t196.length co136) := (blk_cell BK190.out 3).trans rfl;have hcz150_4 : w149.cell? ⟨gb190,4,none⟩ = some (.slice Ao138 t199.length co138) := (blk_cell BK190.out 4).trans rfl;have hfz150_0 := blk_frozen BK190.out 0;have hfz150_1 := blk_frozen BK190.out 1;have hfz150_2 := blk_frozen BK190.out 2;have hfz150_3 := blk_frozen BK190.out 3;have hfz150_4 := blk_frozen BK190.out 4)|((with_reducible refine gate_callee (f := 26) rfl ?_);refine goesL_ (some 31) rfl rfl Try.func26 (by kernel_rfl) rfl #[.agg #[.int .i64 t193,.int .i64 t194,.int .i64 t195,.slice Ao136 t196.length co136,.slice Ao138 t199.length co138]] rfl (by (try simp only [List.map_toArray,List.map_cons,List.map_nil]);first | done | rfl|(simp only [List.length_drop,List.length_take];rfl)) ?_;(with_reducible refine (incipitref12_MayEdit.calls k t193 t194 t195 _ _ t196 _ _ t199 false _ ?side1 ?side2 ?side3 ?side4 A10.out).mono ?_);(case side1 => repeat (first|exact (Kd.R_reads' HO198.out).2.2|(with_reducible refine Kd.C_alloc ?_ _)|(with_reducible refine Kd.C_drewN ?_ _)|(with_reducible refine Kd.C_drew ?_)));(case side2 => exact (Kd.R_reads' HO198.out).2.1);(case side3 => repeat (first|exact (Kd.V_reads' HO201.out).2.2|(with_reducible refine Kd.C_alloc ?_ _)|(with_reducible refine Kd.C_drewN ?_ _)|(with_reducible refine Kd.C_drew ?_)));(case side4 => exact (Kd.V_reads' HO201.out).2.1);rintro e w151 ⟨rfl,hb⟩;refine ⟨_,rfl,?_⟩;have n0_ := Aside0.mk (Kd.R_below (by (with_reducible repeat (first|apply Kd.R_alloc|apply Kd.R_drewN|apply Kd.R_drew));exact HO198.out) hb);have n1_ := Aside0.mk (Kd.V_below (by (with_reducible repeat (first|apply Kd.V_alloc|apply Kd.V_drewN|apply Kd.V_drew));exact HO201.out) hb);have n2_ := Aside0.mk (Kd.R_below (by (with_reducible repeat (first|apply Kd.R_alloc|apply Kd.R_drewN|apply Kd.R_drew));exact HO207.out) hb);have n3_ := Aside0.mk (Kd.V_below (by (with_reducible repeat (first|apply Kd.V_alloc|apply Kd.V_drewN|apply Kd.V_drew));exact HO210.out) hb);have n4_ := Aside0.mk (Kd.R_below (by (with_reducible repeat (first|apply Kd.R_alloc|apply Kd.R_drewN|apply Kd.R_drew));exact HO213.out) hb);have n5_ := Aside0.mk (blk_below (g := gb190) (o := .cells #[.int .i64 t193,.int .i64 t194,.int .i64 t195,.slice Ao136 t196.length co136,.slice Ao138 t199.length co138] 43 (0,0)) (by (with_reducible repeat (first|refine blk_drewN ?_ _|refine blk_drew ?_|refine blk_alloc ?_ _));exact BK190.out) hb);have n6_ := Aside0.mk (blk_below (g := gb191) (o := .cells #[.int .i64 t202,.int .i64 t203,.int .i64 t204,.slice Ao143 t205.length co143,.slice Ao145 t208.length co145] 43 (0,0)) (by (with_reducible repeat (first|refine blk_drewN ?_ _|refine blk_drew ?_|refine blk_alloc ?_ _));exact BK191.out) hb);have n7_ := Aside0.mk (below_step (by repeat (first|(with_reducible first|exact HB.out|apply below_alloc|apply pw_below_drewN|apply below_drew1|refine below_set ?_ GE190.out|refine below_set ?_ GE191.out)|exact HB.out)) hb);clear HO198;clear HO201;clear HO207;clear HO210;clear HO213;clear BK190;clear BK191;clear HB;have HO198 := n0_;have HO201 := n1_;have HO207 := n2_;have HO210 := n3_;have HO213 := n4_;have BK190 := n5_;have BK191 := n6_;have HB := n7_;clear n0_ n1_ n2_ n3_ n4_ n5_ n6_ n7_;(try clear hb);(try clear hb2);(try clear hk);(try clear hi);obtain ⟨Ao152,co152,eo152⟩ := Kd.R_slice HO213.out;subst eo152;have hcz153_0 : w151.cell? ⟨gb190,0,none⟩ = some (.int .i64 t193) := (blk_cell BK190.out 0).trans rfl;have hcz153_1 : w151.cell? ⟨gb190,1,none⟩ = some (.int .i64 t194) := (blk_cell BK190.out 1).trans rfl;have hcz153_2 : w151.cell? ⟨gb190,2,none⟩ = some (.int .i64 t195) := (blk_cell BK190.out 2).trans rfl;have hcz153_3 : w151.cell? ⟨gb190,3,none⟩ = some (.slice Ao136 t196.length co136) := (blk_cell BK190.out 3).trans rfl;have hcz153_4 : w151.cell? ⟨gb190,4,none⟩ = some (.slice Ao138 t199.length co138) := (blk_cell BK190.out 4).trans rfl;have hfz153_0 := blk_frozen BK190.out 0;have hfz153_1 := blk_frozen BK190.out 1;have hfz153_2 := blk_frozen BK190.out 2;have hfz153_3 := blk_frozen BK190.out 3;have hfz153_4 := blk_frozen BK190.out 4)|(go_at_call 27;(with_reducible refine (edit_Check.calls k t193 t194 t195 _ _ t196 _ _ t199 t216 _ ?side1 ?side2 ?side3 ?side4 A126.out).mono ?_);(case side1 => repeat (first|exact (Kd.R_reads' HO198.out).2.2|(with_reducible refine Kd.C_alloc ?_ _)|(with_reducible refine Kd.C_drewN ?_ _)|(with_reducible refine Kd.C_drew ?_)));(case side2 => exact (Kd.R_reads' HO198.out).2.1);(case side3 => repeat (first|exact (Kd.V_reads' HO201.out).2.2|(with_reducible refine Kd.C_alloc ?_ _)|(with_reducible refine Kd.C_drewN ?_ _)|(with_reducible refine Kd.C_drew ?_)));(case side4 => exact (Kd.V_reads' HO201.out).2.1);rintro e w154 ⟨rfl,hb⟩;have n0_ := Aside0.mk (Kd.R_below (by (with_reducible repeat (first|apply Kd.R_alloc|apply Kd.R_drewN|apply Kd.R_drew));exact HO198.out) hb);have n1_ := Aside0.mk (Kd.V_below (by (with_reducible repeat (first|apply Kd.V_alloc|apply Kd.V_drewN|apply Kd.V_drew));exact HO201.out) hb);have n2_ := Aside0.mk (Kd.R_below (by (with_reducible repeat (first|apply Kd.R_alloc|apply Kd.R_drewN|apply Kd.R_drew));exact HO207.out) hb);have n3_ := Aside0.mk (Kd.V_below (by (with_reducible repeat (first|apply Kd.V_alloc|apply Kd.V_drewN|apply Kd.V_drew));exact HO210.out) hb);have n4_ := Aside0.mk (Kd.R_below (by (with_reducible repeat (first|apply Kd.R_alloc|apply Kd.R_drewN|apply Kd.R_drew));exact HO213.out) hb);have n5_ := Aside0.mk (blk_below (g := gb190) (o := .cells #[.int .i64 t193,.int .i64 t194,.int .i64 t195,.slice Ao136 t196.length co136,.slice Ao138 t199.length co138] 43 (0,0)) (by (with_reducible repeat (first|refine blk_drewN ?_ _|refine blk_drew ?_|refine blk_alloc ?_ _));exact BK190.out) hb);have n6_ := Aside0.mk (blk_below (g := gb191) (o := .cells #[.int .i64 t202,.int .i64 t203,.int .i64 t204,.slice Ao143 t205.length co143,.slice Ao145 t208.length co145] 43 (0,0)) (by (with_reducible repeat (first|refine blk_drewN ?_ _|refine blk_drew ?_|refine blk_alloc ?_ _));exact BK191.out) hb);have n7_ := Aside0.mk (below_step (by repeat (first|(with_reducible first|exact HB.out|apply below_alloc|apply pw_below_drewN|apply below_drew1|refine below_set ?_ GE190.out|refine below_set ?_ GE191.out)|exact HB.out)) hb);clear HO198;clear HO201;clear HO207;clear HO210;clear HO213;clear BK190;clear BK191;clear HB;have HO198 := n0_;have HO201 := n1_;have HO207 := n2_;have HO210 := n3_;have HO213 := n4_;have BK190 := n5_;have BK191 := n6_;have HB := n7_;clear n0_ n1_ n2_ n3_ n4_ n5_ n6_ n7_;(try clear hb);(try clear hb2);(try clear hk);(try clear hi)))
     go_ret
     exact ⟨by first | rfl|(simp [errW_none,errW_some] <;> rfl)|(simp [*,errW_none,errW_some] <;> rfl),by repeat (first|(with_reducible first|exact HB.out|apply below_alloc|apply pw_below_drewN|apply below_drew1|refine below_set ?_ GE190.out|refine below_set ?_ GE191.out)|exact HB.out)⟩
    ·rw [if_neg c125] at H
     have c125b0 : ((t211.length : Int) == 0) = false := beq_eq_false_iff_ne.mpr c125
     have c125b1 : ((t211.length : Int) != 0) = true := bne_iff_ne.mpr c125
     have c125b2 : ¬ (t211 = []) := fun h_ => c125 (by rw [h_];rfl)
     obtain rfl := Option.some.inj H
     exact absurd HRT.out (by decide)
   ·rw [if_neg c124] at H
    have c124b0 : (t214 == 12) = false := beq_eq_false_iff_ne.mpr c124
    have c124b1 : (t214 != 12) = true := bne_iff_ne.mpr c124
    obtain rfl := Option.some.inj H
    exact absurd HRT.out (by decide)
 ·replace c6 := Bool.eq_false_iff.mpr c6
  subst c6
  have H1 : (some false) = some r := by rw [if_neg (show ¬ (false = true) by decide)] at H;exact H
  clear H
  have H := H1
  clear H1
  obtain rfl := Option.some.inj H
  exact absurd HRT.out (by decide)

end Go.Proofs.Ytoglanahjlfihaa.MEdt
