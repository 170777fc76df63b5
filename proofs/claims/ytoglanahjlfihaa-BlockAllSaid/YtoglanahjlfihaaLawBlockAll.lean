/- incipitlaw16.BlockAll: rows are laid as the document says, read again, and found. For all rows and every key. -/
import Derived.Test.YtoglanahjlfihaaRows
import Derived.Test.YtoglanahjlfihaaHBlk19
import Derived.Test.YtoglanahjlfihaaQBlkOpen
import Derived.WalkKit
import Derived.ProofKit
import Derived.OpenShut
import Derived.ShutString
import Derived.ChangeOld
import Derived.Below
import Derived.SizedLaws
namespace Go.Proofs.Ytoglanahjlfihaa.blockAll
open Go.ChangeShapes Go.WideShapes Go.ChangeAt Go.RowKit Go.Proofs.Ytoglanahjlfihaa.MBlk Go.Proofs.Ytoglanahjlfihaa.QBlk Go.Proofs.YtoglanahjlfihaaW.PrintWords Go.Proofs.YtoglanahjlfihaaW.PrintLast
open Go.ChangeMaps (open_string shut_string)
set_option linter.unusedVariables false
theorem own : ownKnob Try.prog.godebug = none := by kernel_rfl
theorem laidOut : laidOutB Try.prog = true := by kernel_rfl
set_option maxRecDepth 100000 in
theorem opens68 : Opens Try.prog 68 k68 (fun x => (x.f0.size ≤ maxLen ∧ x.f1.size ≤ maxLen)) := by
  intro H enc w n cs y h
  obtain ⟨xs, n', _, hx, hl, hlen, hg⟩ := DataW.trod_struct Try.underlying68 h
  have hlc : cs.length = 2 := hl.trans (by kernel_rfl)
  match cs, hlc with
  | [c0, c1], _ =>
    match xs, hlen with
    | [y0, y1], _ =>
      have h0 : DataW.trod enc Try.prog w 0 (fun _ => true) true n' 9 (List.take (Try.prog.cellsOf 9) (List.drop 0 [c0, c1])) = some y0 := hg 0 _ rfl
      rw [show Try.prog.cellsOf _ = 1 from (by kernel_rfl : Try.prog.cellsOf 9 = 1)] at h0
      obtain ⟨x0, K0, g0⟩ := (Opens.str (P := Try.prog) Try.underlying9) enc w n' [c0] y0 h0
      have h1 : DataW.trod enc Try.prog w 0 (fun _ => true) true n' 9 (List.take (Try.prog.cellsOf 9) (List.drop 1 [c0, c1])) = some y1 := hg 1 _ rfl
      rw [show Try.prog.cellsOf _ = 1 from (by kernel_rfl : Try.prog.cellsOf 9 = 1)] at h1
      obtain ⟨x1, K1, g1⟩ := (Opens.str (P := Try.prog) Try.underlying9) enc w n' [c1] y1 h1
      exact ⟨⟨x0, x1⟩, ⟨[c0], [c1], rfl, K0, K1⟩, g0, g1⟩
set_option maxRecDepth 100000 in
theorem lifted (os : Os) (started : os.Started) (H : Type) (enc : TypeId × Value → H) :
    ReturnsInHanded {} Try.checked os 9 .any (Rows.blockAllSpec.pre6 enc Try.prog Try.f9 Rows.blockAllRow.domain false) (Rows.blockAllSpec.post enc Try.prog Try.f9 false true false false) := by
  refine returnsInHanded_of_change_sized (C := Try.checked) own started (by kernel_rfl) Try.func9
    (ChangeSpec.witness6 (enc := enc) (C := Try.checked) false ⟨#[], #[.slice none 0 0, .string ByteArray.empty], []⟩ 8 (by kernel_rfl) (by kernel_rfl) (by kernel_rfl) (by kernel_rfl)) ?_
  intro W base args ds gs before hval0 hW hcnd hsz0 _
  have hval : ∀ (j : Nat) t v, Try.f9.params[j]? = some t → args[j]? = some v → Value.okWide Try.prog W .any base t v := hval0
  have hW' := hW
  obtain ⟨p, q, hA0, hV, rfl, hfz, hnd⟩ := hW
  have hA : DataW.TrodAll enc Try.prog W 0 (fun _ => true) true Try.f9.params.toList args.toList ds p := hA0
  rw [Try.params9] at hA hval
  obtain ⟨v0, vs0, d0, ds0, p0, q0, hargs, rfl, rfl, h0, r0⟩ := trodAll_cons hA
  obtain ⟨v1, vs1, d1, ds1, p1, q1, rfl, rfl, rfl, h1, r1⟩ := trodAll_cons r0
  obtain ⟨rfl, rfl, rfl⟩ := trodAll_nil r1
  obtain rfl : args = #[v0, v1] := by cases args; simp_all
  obtain ⟨rfl, rfl⟩ := trodVars_none hV
  obtain ⟨a0, len0, cap0, rfl⟩ := okWide_slice Try.underlying62 (hval 0 62 v0 rfl rfl)
  have k0 := h0
  have lt0 : ∀ x ∈ p0, x.block < W.heap.size := by obtain ⟨m, hm⟩ := k0; exact DataW.trod_lt m _ _ _ hm
  obtain ⟨l0, rfl, hc0, hr0, g0⟩ := param_slice (Opens.slice (P := Try.prog) (t := 62) (e := 68) (d := k68) Try.underlying62 (by kernel_rfl) (opens68)) h0
  obtain ⟨a1, rfl, rfl, rfl, w1⟩ := open_string Try.underlying9 (hval 1 9 v1 rfl rfl) h1
  clear hA0 hval0 hsz0
  refine (incipitlaw16_BlockAll.calls a0 cap0 l0 a1 W hr0 hc0).mono fun e W' ⟨he, bel⟩ => ?_
  subst he
  exact ⟨_, rfl, _, _, _, [], _, [], hW', trodAll_mk1 (shut_bool Try.underlying4 _), (trodAll_cons_mk (Below.trod laidOut (by kernel_rfl) (of_decide_eq_true (by kernel_rfl)) k0 bel lt0) (trodAll_cons_mk (shut_string Try.underlying9 w1) trodAll_mk0)), rfl, bel.frame _, fun h => by cases h⟩
theorem over : Rows.blockAllRow.holds Try.pinned (OpenSpec.ofChange Rows.blockAllSpec) :=
  OpenClaim.holds_of_wide 9 Try.f9 rfl rfl rfl rfl rfl rfl rfl ⟨rfl, rfl, rfl, rfl, rfl⟩ rfl rfl rfl rfl rfl (by kernel_rfl) Try.func9 (by kernel_rfl)
    (of_decide_eq_true (by kernel_rfl)) (by unfold Func.isWrapper; first | (rw [if_pos (by decide +kernel)]; kernel_rfl) | (rw [if_neg (by decide +kernel)]; exact ⟨rfl, rfl⟩))
    (fun os started H enc _ => lifted os started H enc)
theorem proved : Rows.BlockAllSaid := over
#print axioms proved
end Go.Proofs.Ytoglanahjlfihaa.blockAll
namespace Go.Proofs.Ytoglanahjlfihaa
/-- The row, under a short name, for the claim. -/
theorem blockAll_holds : Rows.BlockAllSaid := blockAll.proved
end Go.Proofs.Ytoglanahjlfihaa
