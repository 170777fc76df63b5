import Derived.Test.YtoglanahjlfihaaHLst9
namespace Go.Proofs.Ytoglanahjlfihaa.MLst
open Go.RowKit Go.Proofs.Ytoglanahjlfihaa.QLst Go.Proofs.YtoglanahjlfihaaW.PrintWords Go.Proofs.YtoglanahjlfihaaW.PrintLast Go.Proofs.YtoglanahjlfihaaW.PrintMore
set_option linter.unusedVariables false
set_option linter.unusedSimpArgs false
set_option maxHeartbeats 8000000 in
set_option maxRecDepth 100000 in
theorem list_All.calls (w0 w : World) (g : Nat) (hd : Nd S30) (tl : List (Nd S30)) (hs : List Int) (size : Int) (hO : LO w0 w g hd tl hs size) (hn : tl.length < 1000000) :
    Calls Try.prog 20 #[.pointer (some ⟨g, 0, none⟩)] w fun e' w' => ∃ v, e' = .returned v ∧ Kd.R k30 30 w' w.heap.size (fun _ => True) v (tl.map Nd.e) ∧ Below w.heap.size w w' := by
  obtain ⟨G, vh, hL, hB, hg, hfn, hr⟩ := hO
  have HL := Aside0.mk hL
  have hc0 : w.cell? ⟨g, 0, none⟩ = some (.pointer (some ⟨hd.b, 0, none⟩)) := by rw [blk_cell hL.blk 0]; rfl
  have hNd := hL.nodes hd List.mem_cons_self
  have hcy := hNd.cell
  have hcn := hNd.at (k := 0) (by rw [hL.h8]; decide)
  rw [head_nxt hL (a := []) (y := hd) (c := tl) rfl] at hcn
  rw [hL.h8] at hcy
  obtain ⟨u, hu⟩ : ∃ u, ptrV (tl.head?.map Nd.b) = .pointer u := ⟨_, rfl⟩
  have HU := Aside0.mk hu
  rw [hu] at hcn
  clear hL hB hr hfn hNd hu
  go_enter Try.func20, Try.ntmps20
  go_wp2_with (fail)
  go_loopg [3, 4] tl.length (fun kq s3 s4 wr => ∃ (a c : List (Nd S30)) (A : Option Addr) (cc : Nat), s3 = .slice A a.length cc ∧ s4 = ptrV (c.head?.map Nd.b) ∧ tl = a ++ c ∧ c.length = kq ∧ Aside0 (Kd.R k30 30 wr w.heap.size (fun _ => True) (.slice A a.length cc) (a.map Nd.e)) ∧ Aside0 (Below w.heap.size w wr))
  case atStart => exact ⟨[], tl, none, 0, rfl, HU.out.symm, rfl, rfl, ⟨Kd.R_nil _ _ _ _ _⟩, ⟨Below.refl _ _⟩⟩
  case round =>
    obtain ⟨a, c, A, cc, rfl, rfl, htl, hcl, HR, HB⟩ := hrel
    cases c with
    | nil =>
      have hk : gk = 0 := by simpa using hcl.symm
      subst hk
      rw [show ptrV ((([] : List (Nd S30)).head?).map Nd.b) = .pointer none from rfl]
      have hal : Aside0 (a = tl) := ⟨by rw [htl, List.append_nil]⟩
      clear htl
      go_wp2_with (fail)
      go_ret
      have hal2 := hal.out
      subst hal2
      exact ⟨_, rfl, HR.out, HB.out⟩
    | cons y c2 =>
      obtain ⟨k2, rfl⟩ : ∃ k2, gk = k2 + 1 := ⟨c2.length, by rw [← hcl]; rfl⟩
      rw [show ptrV (((y :: c2).head?).map Nd.b) = .pointer (some ⟨y.b, 0, none⟩) from rfl]
      have e_ : hd :: tl = (hd :: a) ++ y :: c2 := by rw [htl, List.cons_append]
      have hym : y ∈ hd :: tl := by rw [e_]; simp
      have hNy := HL.out.nodes y hym
      have HNy := Aside0.mk hNy
      have hG := head_nxt HL.out e_
      have hyh : 0 < y.h := (HL.out.tall y hym).1
      have hyh1 : ((0 : Int) < (y.h : Int)) = True := eq_true (by omega)
      have hyh2 : (0 < y.h) = True := eq_true hyh
      obtain ⟨hx0, hx1, hx2, hx3, hx4⟩ := (hNy.below HB.out).ent_cells
      have hal : a.length < 1000000 := by have := congrArg List.length htl; rw [List.length_append] at this; omega
      clear hNy
      have HG := Aside0.mk hG
      have HTL := Aside0.mk htl
      clear hG htl e_ hym
      go_wp2_with (first | ((with_reducible refine gate_builtin (b := .append) (xs := #[.tmp 24, .tmp 29]) rfl ?_); at_builtin; refine Kd.R_append k30 (w0 := w) (W := wr) w.heap.size rfl (.tmp 24) (.tmp 29) 34 30 (.agg #[.string ⟨#[]⟩, .int .i64 0, .int .i64 0, .string ⟨#[]⟩, .string ⟨#[]⟩]) 64 rfl Try.underlying34 info30 rfl (by decide) (by omega) (.slice A a.length cc) (a.map Nd.e) y.e [.string y.e.f0, .int .i64 y.e.f1, .int .i64 y.e.f2, .string y.e.f3, .string y.e.f4] (fun _ => True) (fun _ => False) rfl rfl ?aP (fun k hk => hk.elim) ?aF ?aO ?aB ?aS ?aL ?_; (case aP => exact k30_mkM _ _ _ _); (case aF => exact (fun _ _ => trivial)); (case aO => exact HR.out); (case aB => exact HB.out); (case aS => exact below_size HB.out); (case aL => (rw [List.length_map]; omega)); intro v5 w5 ho hb5 hg5 hat5; obtain ⟨A8, c8, e8⟩ := Kd.R_slice ho; subst e8; have HR5 := Aside0.mk ho; have HB5 := Aside0.mk hb5; clear ho hb5 hg5 hat5; have hcy5 := (HNy.out.below HB5.out).cell; have hcn5 := (HNy.out.below HB5.out).at hyh; rw [HG.out] at hcn5; obtain ⟨u5, hu5⟩ : ∃ u, ptrV (c2.head?.map Nd.b) = .pointer u := ⟨_, rfl⟩; rw [hu5] at hcn5))
      go_roundg k2
      case measure => omega
      case rel => exact ⟨a ++ [y], c2, A8, c8, by first | rfl | simp, hu5.symm, by rw [HTL.out]; simp, by simpa using hcl, ⟨by rw [List.map_append, List.length_append, List.length_singleton]; have h_ := HR5.out; rw [List.length_append, List.length_map, List.length_singleton] at h_; exact h_⟩, HB5⟩
end Go.Proofs.Ytoglanahjlfihaa.MLst
