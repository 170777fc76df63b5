import Derived.Test.YtoglanahjlfihaaHLst10
import Derived.LaidEqlPtr
namespace Go.Proofs.Ytoglanahjlfihaa.MLst
open Go.RowKit Go.Proofs.Ytoglanahjlfihaa.QLst Go.Proofs.YtoglanahjlfihaaW.PrintWords Go.Proofs.YtoglanahjlfihaaW.PrintLast Go.Proofs.YtoglanahjlfihaaW.PrintMore
set_option linter.unusedVariables false
set_option linter.unusedSimpArgs false
theorem info88 : (Try.prog.info? 88).map (·.size) = some 6 := by kernel_rfl
theorem eql85_same (a : Addr) (W : World) : (binOp .eql 85 (.pointer (some a)) (.pointer (some a))).run Try.prog W = .ok (.bool true) W := by
  obtain ⟨j, hj, _⟩ := Option.map_eq_some_iff.1 info88
  exact run_eql_ptr_same W a Try.underlying85 hj
theorem eql85_other {a b : Nat} {W : World} {ca cb : Array Value} {ta tb : TypeId} (hne : a ≠ b) (ha : W.heap[a]? = some (.cells ca ta (0, 0))) (hb : W.heap[b]? = some (.cells cb tb (0, 0))) : (binOp .eql 85 (.pointer (some ⟨a, 0, none⟩)) (.pointer (some ⟨b, 0, none⟩))).run Try.prog W = .ok (.bool false) W := by
  obtain ⟨j, hj, hs⟩ := Option.map_eq_some_iff.1 info88
  exact run_eql_ptr_other W Try.underlying85 hj (by rw [hs]; decide) (fun h => hne (congrArg Addr.block h)) ha hb
theorem NdB.kept {w wr : World} {G : Nat → Nat → Option Nat} {y : Nd S30} {i : Nat} (h : NdB w G y) (hk : Kept w wr (fun k => k = i)) (h1 : y.b ≠ i) (h2 : y.n ≠ i) : NdB wr G y := ⟨blk_kept h.1 hk h1, blk_kept h.2 hk h2⟩
set_option maxHeartbeats 8000000 in
set_option maxRecDepth 100000 in
theorem iter_Last.calls (w0 w : World) (g i : Nat) (hd : Nd S30) (tl : List (Nd S30)) (hs : List Int) (size : Int) (at_ : Option Nat) (hO : LO w0 w g hd tl hs size) (hI : It w i g at_) (hi0 : w0.heap.size ≤ i) :
    Calls Try.prog 35 #[.pointer (some ⟨i, 0, none⟩)] w fun e' w' => e' = .returned (.tuple #[]) ∧ It w' i g (tl.getLast?.map Nd.b) ∧ Kept w w' (fun k => k = i) ∧ Below w0.heap.size w0 w' := by
  obtain ⟨G, vh, hL, hB, hg, hfn, hr⟩ := hO
  have HL := Aside0.mk hL
  have HB := Aside0.mk hB
  have HI := Aside0.mk hI
  have hii : w.cell? ⟨i, 0, none⟩ = some (.pointer (some ⟨g, 0, none⟩)) := by rw [blk_cell hI 0]; rfl
  obtain ⟨v1, hv1⟩ : ∃ v, w.cell? ⟨i, 1, none⟩ = some v := ⟨_, by rw [blk_cell hI 1]; rfl⟩
  have hf1 := blk_frozen hI 1
  have hc0 : w.cell? ⟨g, 0, none⟩ = some (.pointer (some ⟨hd.b, 0, none⟩)) := by rw [blk_cell hL.blk 0]; rfl
  have hNd := hL.nodes hd List.mem_cons_self
  have hcy := hNd.cell
  have hcn := hNd.at (k := 0) (by rw [hL.h8]; decide)
  rw [head_nxt hL (a := []) (y := hd) (c := tl) rfl] at hcn
  rw [hL.h8] at hcy
  obtain ⟨u, hu⟩ : ∃ u, ptrV (tl.head?.map Nd.b) = .pointer u := ⟨_, rfl⟩
  have HU := Aside0.mk hu
  rw [hu] at hcn
  have hgi : g ≠ i := blk_ne hL.blk hI (by decide)
  have hbi : hd.b ≠ i := blk_ne hNd.1 hI (by decide)
  have hni : hd.n ≠ i := blk_ne hNd.2 hI (by decide)
  have HNI : Aside0 (∀ y ∈ hd :: tl, y.b ≠ i ∧ y.n ≠ i) := ⟨fun y hy => ⟨blk_ne (hL.nodes y hy).1 hI (by decide), blk_ne (hL.nodes y hy).2 hI (by decide)⟩⟩
  clear hL hB hr hfn hNd hu hI
  go_enter Try.func35, Try.ntmps35
  go_wp2_with (fail)
  go_loopg [2] tl.length (fun kq s2 wr => ∃ (a c : List (Nd S30)), s2 = ptrV (c.head?.map Nd.b) ∧ tl = a ++ c ∧ c.length = kq ∧ Aside0 (It wr i g (a.getLast?.map Nd.b)) ∧ Aside0 (Kept w wr (fun k => k = i)) ∧ Aside0 (Below w0.heap.size w0 wr))
  case atStart => exact ⟨[], tl, HU.out.symm, rfl, rfl, ⟨blk_set HI.out 1 _⟩, ⟨Kept.setCell (S := fun k => k = i) (p := ⟨i, 1, none⟩) (Kept.refl w _) (.inl rfl) _⟩, ⟨below_set HB.out hi0⟩⟩
  case round =>
    clear HI HB hv1 hf1 hcy hcn hii hc0
    obtain ⟨a, c, rfl, htl, hcl, HI, HK, HB⟩ := hrel
    cases c with
    | nil =>
      have hk : gk = 0 := by simpa using hcl.symm
      subst hk
      rw [show ptrV ((([] : List (Nd S30)).head?).map Nd.b) = .pointer none from rfl]
      have hal : Aside0 (a = tl) := ⟨by rw [htl, List.append_nil]⟩
      clear htl
      go_wp2_with (fail)
      go_end0
      have hal2 := hal.out
      subst hal2
      exact ⟨rfl, HI.out, HK.out, HB.out⟩
    | cons y c2 =>
      obtain ⟨k2, rfl⟩ : ∃ k2, gk = k2 + 1 := ⟨c2.length, by rw [← hcl]; rfl⟩
      rw [show ptrV (((y :: c2).head?).map Nd.b) = .pointer (some ⟨y.b, 0, none⟩) from rfl]
      have e_ : hd :: tl = (hd :: a) ++ y :: c2 := by rw [htl, List.cons_append]
      have hym : y ∈ hd :: tl := by rw [e_]; simp
      obtain ⟨hyb, hyn⟩ := HNI.out y hym
      have hNy := (HL.out.nodes y hym).kept HK.out hyb hyn
      have hG := head_nxt HL.out e_
      have hyh : 0 < y.h := (HL.out.tall y hym).1
      have hyh1 : ((0 : Int) < (y.h : Int)) = True := eq_true (by omega)
      have hyh2 : (0 < y.h) = True := eq_true hyh
      have hcy := hNy.cell
      have hcn := hNy.at hyh
      rw [hG] at hcn
      obtain ⟨u5, hu5⟩ : ∃ u, ptrV (c2.head?.map Nd.b) = .pointer u := ⟨_, rfl⟩
      rw [hu5] at hcn
      obtain ⟨v1, hv1⟩ : ∃ v, wr.cell? ⟨i, 1, none⟩ = some v := ⟨_, by rw [blk_cell HI.out 1]; rfl⟩
      have hf1 := blk_frozen HI.out 1
      have HTL := Aside0.mk htl
      clear hNy hG htl e_ hym
      go_wp2_with (fail)
      go_roundg k2
      case measure => omega
      case rel => exact ⟨a ++ [y], c2, hu5.symm, by rw [HTL.out]; simp, by simpa using hcl, ⟨by rw [List.getLast?_concat]; exact blk_set HI.out 1 _⟩, ⟨HK.out.setCell (.inl rfl) _⟩, ⟨below_set HB.out hi0⟩⟩
theorem LastAt_zero {hd z : Nd S30} {a : List (Nd S30)} (h : LastAt (hd :: a) 0 z) (ht : ∀ y ∈ a, 1 ≤ y.h) : (a = [] ∧ z = hd) ∨ a.getLast? = some z := by
  obtain ⟨s, t, e, _, ht2⟩ := h
  have htn : t = [] := by
    cases t with
    | nil => rfl
    | cons x r =>
      have hx : x ∈ a := by
        cases s with
        | nil => injection e with _ e; rw [e]; simp
        | cons q s => injection e with _ e; rw [e]; simp
      exact absurd (ht x hx) (by have := ht2 x List.mem_cons_self; omega)
  subst htn
  cases s with
  | nil => injection e with e1 e2; exact .inl ⟨e2, e1.symm⟩
  | cons q s =>
    injection e with _ e
    have e2 : a = s ++ [z] := e
    rw [e2, List.getLast?_concat]; exact .inr rfl
set_option maxHeartbeats 8000000 in
set_option maxRecDepth 100000 in
theorem iter_Prev.calls (w0 w : World) (g i : Nat) (hd : Nd S30) (tl a c : List (Nd S30)) (y : Nd S30) (hs : List Int) (size : Int) (hO : LO w0 w g hd tl hs size) (hI : It w i g (some y.b)) (hi0 : w0.heap.size ≤ i) (hsrt : Srt (tl.map Nd.e)) (htl : tl = a ++ y :: c) :
    Calls Try.prog 36 #[.pointer (some ⟨i, 0, none⟩)] w fun e' w' => e' = .returned (.tuple #[]) ∧ It w' i g (a.getLast?.map Nd.b) ∧ Kept w w' (fun k => k = i) ∧ Below w0.heap.size w0 w' := by
  obtain ⟨G, vh, hL, hB, hg, hfn, hr⟩ := hO
  have HL := Aside0.mk hL
  have HB := Aside0.mk hB
  have HI := Aside0.mk hI
  have hii : w.cell? ⟨i, 0, none⟩ = some (.pointer (some ⟨g, 0, none⟩)) := by rw [blk_cell hI 0]; rfl
  have hi1 : w.cell? ⟨i, 1, none⟩ = some (.pointer (some ⟨y.b, 0, none⟩)) := by rw [blk_cell hI 1]; rfl
  have hym : y ∈ hd :: tl := by rw [htl]; simp
  obtain ⟨hx0, hx1, hx2, hx3, hx4⟩ := (hL.nodes y hym).ent_cells
  rw [htl, List.map_append, List.map_cons, Srt, List.pairwise_append, List.pairwise_cons] at hsrt
  have hlo : ∀ z ∈ a, ltE z.e y.e = true := fun z hz => hsrt.2.2 z.e (List.mem_map_of_mem hz) y.e List.mem_cons_self
  have hhi : ∀ z ∈ y :: c, ltE z.e y.e = false := fun z hz => by
    rcases List.mem_cons.1 hz with rfl | hz
    · exact ltE_irrefl _
    · have h1 := hsrt.2.1.1 z.e (List.mem_map_of_mem hz)
      cases h2 : ltE z.e y.e with
      | false => rfl
      | true => have := ltE_trans h1 h2; rw [ltE_irrefl] at this; cases this
  have HLH := Aside0.mk (And.intro hlo hhi)
  have HTL := Aside0.mk htl
  have HNI : Aside0 (∀ y ∈ hd :: tl, y.b ≠ i ∧ y.n ≠ i) := ⟨fun y hy => ⟨blk_ne (hL.nodes y hy).1 hI (by decide), blk_ne (hL.nodes y hy).2 hI (by decide)⟩⟩
  clear hL hB hI hr hfn hsrt hlo hhi htl hym
  go_enter Try.func36, Try.ntmps36
  go_wp2_with (fail)
  refine (iter_OK.calls w g i (some y.b) HI.out).mono ?_
  rintro e' w2 ⟨rfl, rfl⟩
  go_upto_region 1 with (fail)
  go_cut [2] (fun s2 wc => ∃ z : Nd S30, s2 = .pointer (some ⟨i, 0, none⟩) ∧ Aside0 (LastAt (hd :: a) 0 z) ∧ Aside0 (It wc i g (some z.b)) ∧ Aside0 (Kept w2 wc (fun k => k = i)) ∧ Aside0 (Below w0.heap.size w0 wc) ∧ Aside0 (wc.heap[g]? = some (.cells #[.pointer (some ⟨hd.b, 0, none⟩), vh, .int .i64 tl.length, .int .i64 size] 90 (0, 0))))
  case first =>
    go_region_law (first | (go_simp; go_at_call 52; (with_reducible refine (list_before.calls _ g hd tl a (y :: c) G vh size y.e (HL.out.below (below_drew1 (Below.refl _ _))) HTL.out.symm HLH.out.1 HLH.out.2).mono ?_); rintro e' w3 ⟨gw, W, rfl, hb, hgw, hw, hway⟩; obtain ⟨z, hz, hWz⟩ := hway 0 (by decide); have hcw : w3.cell? ⟨gw, 0, none⟩ = some (.pointer (some ⟨z.b, 0, none⟩)) := (by rw [blk_cell hw 0, rowV_get (by decide), hWz]; rfl); have HI3 : Aside0 (It w3 i g (some y.b)) := ⟨blk_below (blk_drew HI.out) hb⟩; have HB3 := Aside0.mk (below_step (below_drew1 HB.out) hb); have HK3 : Aside0 (Kept w2 w3 (fun k => k = i)) := ⟨Kept.of_below (below_step (below_drew1 (Below.refl _ _)) hb) _⟩; have HZ := Aside0.mk hz; have HL3 := Aside0.mk (HL.out.below (below_step (below_drew1 (Below.refl _ _)) hb)); obtain ⟨v1, hv1⟩ : ∃ v, w3.cell? ⟨i, 1, none⟩ = some v := ⟨_, by rw [blk_cell HI3.out 1]; rfl⟩; have hf1 := blk_frozen HI3.out 1; clear hb hgw hw hway hz hWz))
    all_goals
      have hgi : g ≠ i := blk_ne HL3.out.blk HI3.out (by decide)
      go_wp2_with (fail)
      go_meet
      case rel => exact ⟨z, rfl, HZ, ⟨blk_set HI3.out 1 _⟩, ⟨HK3.out.setCell (.inl rfl) _⟩, ⟨below_set HB3.out hi0⟩, ⟨blk_far HL3.out.blk hgi _⟩⟩
  case rest =>
    clear hii hi1 hx0 hx1 hx2 hx3 hx4 HI HB
    obtain ⟨z, rfl, HZ, HI3, HK3, HB3, HG3⟩ := hcut
    obtain ⟨wr, hwr⟩ : ∃ wr, wr = wc := ⟨_, rfl⟩
    subst hwr
    have hi30 : wr.cell? ⟨i, 0, none⟩ = some (.pointer (some ⟨g, 0, none⟩)) := by rw [blk_cell HI3.out 0]; rfl
    have hi31 : wr.cell? ⟨i, 1, none⟩ = some (.pointer (some ⟨z.b, 0, none⟩)) := by rw [blk_cell HI3.out 1]; rfl
    have hg30 : wr.cell? ⟨g, 0, none⟩ = some (.pointer (some ⟨hd.b, 0, none⟩)) := by rw [blk_cell HG3.out 0]; rfl
    have hf1 := blk_frozen HI3.out 1
    have hta : ∀ x ∈ a, 1 ≤ x.h := fun x hx => (HL.out.tall x (by rw [HTL.out]; simp [hx])).1
    rcases LastAt_zero HZ.out hta with ⟨ha, hz⟩ | ha
    · subst hz
      have HA := Aside0.mk ha
      clear ha
      have heq : ∀ W : World, _ := fun W => eql85_same ⟨z.b, 0, none⟩ W
      go_wp2_with (fail)
      go_region
      go_wp2_with (fail)
      go_end0
      exact ⟨rfl, by rw [HA.out]; exact blk_set HI3.out 1 (ptrV none), HK3.out.setCell (.inl rfl) _, by first | exact below_set HB3.out hi0 | exact below_drew1 (below_set HB3.out hi0) | exact below_set (below_drew1 HB3.out) hi0⟩
    · have hza : z ∈ a := List.mem_of_getLast? ha
      have hzb : z.b ≠ hd.b := by
        obtain ⟨s, t, e⟩ := List.append_of_mem hza
        exact fun hh => (Apart.ne2 HL.out.apart (a := []) (y := hd) (z := z) (t := s) (c := t ++ y :: c) (by rw [HTL.out, e]; simp)).1 hh.symm
      have HA := Aside0.mk ha
      have hNz := (HL.out.nodes z (by rw [HTL.out]; simp [hza])).kept HK3.out (HNI.out z (by rw [HTL.out]; simp [hza])).1 (HNI.out z (by rw [HTL.out]; simp [hza])).2
      have hNh := (HL.out.nodes hd List.mem_cons_self).kept HK3.out (HNI.out hd List.mem_cons_self).1 (HNI.out hd List.mem_cons_self).2
      have heq : (binOp .eql 85 (.pointer (some ⟨z.b, 0, none⟩)) (.pointer (some ⟨hd.b, 0, none⟩))).run Try.prog wr.drew = .ok (.bool false) wr.drew := eql85_other hzb (blk_drew hNz.1) (blk_drew hNh.1)
      clear ha hza hNz hNh
      go_wp2_with (fail)
      go_region
      go_wp2_with (fail)
      go_end0
      exact ⟨rfl, by rw [HA.out]; exact HI3.out, HK3.out, below_drew1 HB3.out⟩
end Go.Proofs.Ytoglanahjlfihaa.MLst
