-- Written by a program of this session for this claim (out of the translation's print);Lean checks it.
import Derived.Test.YtoglanahjlfihaaRows
import Derived.Test.YtoglanahjlfihaaMEdtx8
import Derived.Test.YtoglanahjlfihaaPureEditBytes
import Derived.Test.YtoglanahjlfihaaQEdtOpen
import Derived.WalkKit
import Derived.ProofKit
import Derived.OpenShut
import Derived.ShutString
import Derived.ChangeOld
import Derived.Below
import Derived.SizedLaws
namespace Go.Proofs.Ytoglanahjlfihaa.editBytes
open Go.ChangeShapes Go.WideShapes Go.ChangeAt Go.RowKit Go.Proofs.Ytoglanahjlfihaa.MEdt Go.Proofs.Ytoglanahjlfihaa.QEdt Go.Proofs.YtoglanahjlfihaaW.PrintWords Go.Proofs.YtoglanahjlfihaaW.PrintLast
open Go.ChangeMaps (open_string shut_string)
set_option linter.unusedVariables false
theorem own : ownKnob Try.prog.godebug = none := by kernel_rfl
theorem laidOut : laidOutB Try.prog = true := by kernel_rfl
set_option maxRecDepth 100000 in
theorem opens55 : Opens Try.prog 55 k55 (fun x => ((Lit.int .i64 x.f0).wf = true ∧ (Lit.int .i64 x.f1).wf = true ∧ (Lit.int .i64 x.f2).wf = true ∧ x.f3.size ≤ maxLen ∧ x.f4.size ≤ maxLen)) := by
  intro H enc w n cs y h
  obtain ⟨xs,n',_,hx,hl,hlen,hg⟩ := DataW.trod_struct Try.underlying55 h
  have hlc : cs.length = 5 := hl.trans (by kernel_rfl)
  match cs,hlc with
  | [c0,c1,c2,c3,c4],_ =>
    match xs,hlen with
    | [y0,y1,y2,y3,y4],_ =>
      have h0 : DataW.trod enc Try.prog w 0 (fun _ => true) true n' 2 (List.take (Try.prog.cellsOf 2) (List.drop 0 [c0,c1,c2,c3,c4])) = some y0 := hg 0 _ rfl
      rw [show Try.prog.cellsOf _ = 1 from (by kernel_rfl : Try.prog.cellsOf 2 = 1)] at h0
      obtain ⟨x0,K0,g0⟩ := (Opens.int (P := Try.prog) Try.underlying2) enc w n' [c0] y0 h0
      have h1 : DataW.trod enc Try.prog w 0 (fun _ => true) true n' 3 (List.take (Try.prog.cellsOf 3) (List.drop 1 [c0,c1,c2,c3,c4])) = some y1 := hg 1 _ rfl
      rw [show Try.prog.cellsOf _ = 1 from (by kernel_rfl : Try.prog.cellsOf 3 = 1)] at h1
      obtain ⟨x1,K1,g1⟩ := (Opens.int (P := Try.prog) Try.underlying3) enc w n' [c1] y1 h1
      have h2 : DataW.trod enc Try.prog w 0 (fun _ => true) true n' 3 (List.take (Try.prog.cellsOf 3) (List.drop 2 [c0,c1,c2,c3,c4])) = some y2 := hg 2 _ rfl
      rw [show Try.prog.cellsOf _ = 1 from (by kernel_rfl : Try.prog.cellsOf 3 = 1)] at h2
      obtain ⟨x2,K2,g2⟩ := (Opens.int (P := Try.prog) Try.underlying3) enc w n' [c2] y2 h2
      have h3 : DataW.trod enc Try.prog w 0 (fun _ => true) true n' 9 (List.take (Try.prog.cellsOf 9) (List.drop 3 [c0,c1,c2,c3,c4])) = some y3 := hg 3 _ rfl
      rw [show Try.prog.cellsOf _ = 1 from (by kernel_rfl : Try.prog.cellsOf 9 = 1)] at h3
      obtain ⟨x3,K3,g3⟩ := (Opens.str (P := Try.prog) Try.underlying9) enc w n' [c3] y3 h3
      have h4 : DataW.trod enc Try.prog w 0 (fun _ => true) true n' 9 (List.take (Try.prog.cellsOf 9) (List.drop 4 [c0,c1,c2,c3,c4])) = some y4 := hg 4 _ rfl
      rw [show Try.prog.cellsOf _ = 1 from (by kernel_rfl : Try.prog.cellsOf 9 = 1)] at h4
      obtain ⟨x4,K4,g4⟩ := (Opens.str (P := Try.prog) Try.underlying9) enc w n' [c4] y4 h4
      exact ⟨⟨x0,x1,x2,x3,x4⟩,⟨[c0],[c1,c2,c3,c4],rfl,K0,⟨[c1],[c2,c3,c4],rfl,K1,⟨[c2],[c3,c4],rfl,K2,⟨[c3],[c4],rfl,K3,K4⟩⟩⟩⟩,g0,g1,g2,g3,g4⟩
set_option maxRecDepth 100000 in
theorem opens43 : Opens Try.prog 43 k43 (fun x => ((Lit.int .i64 x.f0).wf = true ∧ (Lit.int .i64 x.f1).wf = true ∧ (Lit.int .i64 x.f2).wf = true ∧ (x.f3.length ≤ maxLen ∧ ∀ y ∈ x.f3,((Lit.int .i64 y.f0).wf = true ∧ (Lit.int .i64 y.f1).wf = true ∧ (Lit.int .i64 y.f2).wf = true ∧ y.f3.size ≤ maxLen ∧ y.f4.size ≤ maxLen)) ∧ (x.f4.length ≤ maxLen ∧ ∀ y ∈ x.f4,(Lit.int .i64 y).wf = true))) := by
  intro H enc w n cs y h
  obtain ⟨xs,n',_,hx,hl,hlen,hg⟩ := DataW.trod_struct Try.underlying43 h
  have hlc : cs.length = 5 := hl.trans (by kernel_rfl)
  match cs,hlc with
  | [c0,c1,c2,c3,c4],_ =>
    match xs,hlen with
    | [y0,y1,y2,y3,y4],_ =>
      have h0 : DataW.trod enc Try.prog w 0 (fun _ => true) true n' 2 (List.take (Try.prog.cellsOf 2) (List.drop 0 [c0,c1,c2,c3,c4])) = some y0 := hg 0 _ rfl
      rw [show Try.prog.cellsOf _ = 1 from (by kernel_rfl : Try.prog.cellsOf 2 = 1)] at h0
      obtain ⟨x0,K0,g0⟩ := (Opens.int (P := Try.prog) Try.underlying2) enc w n' [c0] y0 h0
      have h1 : DataW.trod enc Try.prog w 0 (fun _ => true) true n' 2 (List.take (Try.prog.cellsOf 2) (List.drop 1 [c0,c1,c2,c3,c4])) = some y1 := hg 1 _ rfl
      rw [show Try.prog.cellsOf _ = 1 from (by kernel_rfl : Try.prog.cellsOf 2 = 1)] at h1
      obtain ⟨x1,K1,g1⟩ := (Opens.int (P := Try.prog) Try.underlying2) enc w n' [c1] y1 h1
      have h2 : DataW.trod enc Try.prog w 0 (fun _ => true) true n' 2 (List.take (Try.prog.cellsOf 2) (List.drop 2 [c0,c1,c2,c3,c4])) = some y2 := hg 2 _ rfl
      rw [show Try.prog.cellsOf _ = 1 from (by kernel_rfl : Try.prog.cellsOf 2 = 1)] at h2
      obtain ⟨x2,K2,g2⟩ := (Opens.int (P := Try.prog) Try.underlying2) enc w n' [c2] y2 h2
      have h3 : DataW.trod enc Try.prog w 0 (fun _ => true) true n' 40 (List.take (Try.prog.cellsOf 40) (List.drop 3 [c0,c1,c2,c3,c4])) = some y3 := hg 3 _ rfl
      rw [show Try.prog.cellsOf _ = 1 from (by kernel_rfl : Try.prog.cellsOf 40 = 1)] at h3
      obtain ⟨x3,K3,g3⟩ := (Opens.slice (P := Try.prog) (t := 40) (e := 55) (d := k55) Try.underlying40 (by kernel_rfl) (opens55)) enc w n' [c3] y3 h3
      have h4 : DataW.trod enc Try.prog w 0 (fun _ => true) true n' 41 (List.take (Try.prog.cellsOf 41) (List.drop 4 [c0,c1,c2,c3,c4])) = some y4 := hg 4 _ rfl
      rw [show Try.prog.cellsOf _ = 1 from (by kernel_rfl : Try.prog.cellsOf 41 = 1)] at h4
      obtain ⟨x4,K4,g4⟩ := (Opens.slice (P := Try.prog) (t := 41) (e := 2) (d := (Kd.int .i64)) Try.underlying41 (by kernel_rfl) (Opens.int (P := Try.prog) Try.underlying2)) enc w n' [c4] y4 h4
      exact ⟨⟨x0,x1,x2,x3,x4⟩,⟨[c0],[c1,c2,c3,c4],rfl,K0,⟨[c1],[c2,c3,c4],rfl,K1,⟨[c2],[c3,c4],rfl,K2,⟨[c3],[c4],rfl,K3,K4⟩⟩⟩⟩,g0,g1,g2,g3,g4⟩
set_option maxRecDepth 100000 in
theorem lifted (os : Os) (started : os.Started) (H : Type) (enc : TypeId × Value → H) :
    ReturnsInHanded {} Try.checked os 5 .any (Rows.editBytesSpec.pre6 enc Try.prog Try.f5 Rows.editBytesRow.domain false) (Rows.editBytesSpec.post enc Try.prog Try.f5 false true false false) := by
  refine returnsInHanded_of_change_sized (C := Try.checked) own started (by kernel_rfl) Try.func5
    (ChangeSpec.witness6 (enc := enc) (C := Try.checked) false ⟨#[],#[.agg #[.int .i64 0,.int .i64 0,.int .i64 0,.slice none 0 0,.slice none 0 0],.agg #[.int .i64 0,.int .i64 0,.int .i64 0,.slice none 0 0,.slice none 0 0],.int .i64 0,.int .u8 0],[]⟩ 8 (by kernel_rfl) (by kernel_rfl) (by kernel_rfl) (by kernel_rfl)) ?_
  intro W base args ds gs before hval0 hW hcnd hsz0 _
  have hval : ∀ (j : Nat) t v,Try.f5.params[j]? = some t → args[j]? = some v → Value.okWide Try.prog W .any base t v := hval0
  have hW' := hW
  obtain ⟨p,q,hA0,hV,rfl,hfz,hnd⟩ := hW
  have hA : DataW.TrodAll enc Try.prog W 0 (fun _ => true) true Try.f5.params.toList args.toList ds p := hA0
  rw [Try.params5] at hA hval
  obtain ⟨v0,vs0,d0,ds0,p0,q0,hargs,rfl,rfl,h0,r0⟩ := trodAll_cons hA
  obtain ⟨v1,vs1,d1,ds1,p1,q1,rfl,rfl,rfl,h1,r1⟩ := trodAll_cons r0
  obtain ⟨v2,vs2,d2,ds2,p2,q2,rfl,rfl,rfl,h2,r2⟩ := trodAll_cons r1
  obtain ⟨v3,vs3,d3,ds3,p3,q3,rfl,rfl,rfl,h3,r3⟩ := trodAll_cons r2
  obtain ⟨rfl,rfl,rfl⟩ := trodAll_nil r3
  obtain rfl : args = #[v0,v1,v2,v3] := by cases args;simp_all
  obtain ⟨rfl,rfl⟩ := trodVars_none hV
  have k0 := h0
  have lt0 : ∀ x ∈ p0,x.block < W.heap.size := by obtain ⟨m,hm⟩ := k0;exact DataW.trod_lt m _ _ _ hm
  obtain ⟨x0,cs0,rfl,K0,g0⟩ := param_struct (opens43) Try.underlying43 (hval 0 43 v0 rfl rfl) h0
  obtain ⟨A0_3,c0_3,A0_4,c0_4,hr0_3,hc0_3,hr0_4,hc0_4,rfl⟩ := k43_open K0
  have k1 := h1
  have lt1 : ∀ x ∈ p1,x.block < W.heap.size := by obtain ⟨m,hm⟩ := k1;exact DataW.trod_lt m _ _ _ hm
  obtain ⟨x1,cs1,rfl,K1,g1⟩ := param_struct (opens43) Try.underlying43 (hval 1 43 v1 rfl rfl) h1
  obtain ⟨A1_3,c1_3,A1_4,c1_4,hr1_3,hc1_3,hr1_4,hc1_4,rfl⟩ := k43_open K1
  obtain ⟨a2,rfl,rfl,rfl,w2⟩ := open_int Try.underlying3 (hval 2 3 v2 rfl rfl) h2
  obtain ⟨a3,rfl,rfl,rfl,w3⟩ := open_int Try.underlying5 (hval 3 5 v3 rfl rfl) h3
  clear hA0 hval0 hsz0
  obtain ⟨k,h⟩ := Pure.EditBytes x0 x1 a2 a3 g0 g1 w2 w3
  refine (incipitlaw19_EditBytes.calls (k := k) (a0_0 := x0.f0) (a0_1 := x0.f1) (a0_2 := x0.f2) (l0_3 := x0.f3) (hr0_3 := hr0_3) (hc0_3 := hc0_3) (l0_4 := x0.f4) (hr0_4 := hr0_4) (hc0_4 := hc0_4) (a1_0 := x1.f0) (a1_1 := x1.f1) (a1_2 := x1.f2) (l1_3 := x1.f3) (hr1_3 := hr1_3) (hc1_3 := hc1_3) (l1_4 := x1.f4) (hr1_4 := hr1_4) (hc1_4 := hc1_4) (r := true) (w := W) (hrt := rfl) (h := h)).mono fun e W' ⟨he,bel0⟩ => ?_
  have bel : Below W.heap.size W W' := bel0
  subst he
  exact ⟨_,rfl,_,_,_,[],_,[],hW',trodAll_mk1 (shut_bool Try.underlying4 _),(trodAll_cons_mk (Below.trod laidOut (by kernel_rfl) (of_decide_eq_true (by kernel_rfl)) k0 bel lt0) (trodAll_cons_mk (Below.trod laidOut (by kernel_rfl) (of_decide_eq_true (by kernel_rfl)) k1 bel lt1) (trodAll_cons_mk (shut_int Try.underlying3 w2) (trodAll_cons_mk (shut_int Try.underlying5 w3) trodAll_mk0)))),rfl,bel.frame _,fun h => by cases h⟩
theorem over : Rows.editBytesRow.holds Try.pinned (OpenSpec.ofChange Rows.editBytesSpec) :=
  OpenClaim.holds_of_wide 5 Try.f5 rfl rfl rfl rfl rfl rfl rfl ⟨rfl,rfl,rfl,rfl,rfl⟩ rfl rfl rfl rfl rfl (by kernel_rfl) Try.func5 (by kernel_rfl)
    (of_decide_eq_true (by kernel_rfl)) (by unfold Func.isWrapper;first | (rw [if_pos (by decide +kernel)];kernel_rfl) | (rw [if_neg (by decide +kernel)];exact ⟨rfl,rfl⟩))
    (fun os started H enc _ => lifted os started H enc)
theorem proved : Rows.EditBytesSaid := over
#print axioms proved
end Go.Proofs.Ytoglanahjlfihaa.editBytes
namespace Go.Proofs.Ytoglanahjlfihaa
/-- The row, under a short name, for the claim. -/
theorem editBytes_holds : Rows.EditBytesSaid := editBytes.proved
end Go.Proofs.Ytoglanahjlfihaa
