import Derived.Test.YtoglanahjlfihaaHLst7
namespace Go.Proofs.Ytoglanahjlfihaa.MLst
open Go.RowKit Go.Proofs.Ytoglanahjlfihaa.QLst Go.Proofs.YtoglanahjlfihaaW.PrintWords Go.Proofs.YtoglanahjlfihaaW.PrintLast Go.Proofs.YtoglanahjlfihaaW.PrintMore
set_option linter.unusedVariables false
set_option linter.unusedSimpArgs false
/-- The five cells of an entry, stored. -/
def set5 (w : World) (gp : Nat) (x : S30) : World := ((((w.setCell ⟨gp, 0, none⟩ (.string x.f0)).setCell ⟨gp, 1, none⟩ (.int .i64 x.f1)).setCell ⟨gp, 2, none⟩ (.int .i64 x.f2)).setCell ⟨gp, 3, none⟩ (.string x.f3)).setCell ⟨gp, 4, none⟩ (.string x.f4)
theorem set5_blk {w : World} {gp : Nat} {a b c d e : Value} (h : w.heap[gp]? = some (.cells #[a, b, c, d, e] 30 (0, 0))) (x : S30) : (set5 w gp x).heap[gp]? = some (.cells #[.string x.f0, .int .i64 x.f1, .int .i64 x.f2, .string x.f3, .string x.f4] 30 (0, 0)) :=
  blk_set (blk_set (blk_set (blk_set (blk_set h 0 _) 1 _) 2 _) 3 _) 4 _
theorem set5_below {w w0 : World} {gp : Nat} (h : Below w0.heap.size w0 w) (hg : w0.heap.size ≤ gp) (x : S30) : Below w0.heap.size w0 (set5 w gp x) :=
  below_set (below_set (below_set (below_set (below_set h hg) hg) hg) hg) hg
def zE : S30 := ⟨⟨#[]⟩, 0, 0, ⟨#[]⟩, ⟨#[]⟩⟩
/-- What Get hands back. -/
def resG : Option S30 → Value
  | none => .tuple #[.agg #[.string ⟨#[]⟩, .int .i64 0, .int .i64 0, .string ⟨#[]⟩, .string ⟨#[]⟩], .bool false]
  | some x => .tuple #[.agg #[.string x.f0, .int .i64 x.f1, .int .i64 x.f2, .string x.f3, .string x.f4], .bool true]
set_option maxHeartbeats 8000000 in
set_option maxRecDepth 100000 in
theorem list_Get.calls (w0 w : World) (g : Nat) (hd : Nd S30) (tl : List (Nd S30)) (hs : List Int) (size : Int) (norm : ByteArray) (seq : Int) (hO : LO w0 w g hd tl hs size) (hsrt : Srt (tl.map Nd.e)) :
    Calls Try.prog 18 #[.pointer (some ⟨g, 0, none⟩), .string norm, .int .i64 seq] w fun e' w' => e' = .returned (resG (getE (tl.map Nd.e) norm seq)) ∧ Below w.heap.size w w' := by
  obtain ⟨G, vh, hL, hB, hg, hfn, hr⟩ := hO
  have HL := Aside0.mk hL
  obtain ⟨res, hres⟩ : ∃ res, getE (tl.map Nd.e) norm seq = res := ⟨_, rfl⟩
  rw [hres]
  have hget : (match (hiN tl (qE norm seq)).head? with | none => none | some x => if x.e.f0 = norm then some x.e else none) = res := by
    rw [← hres]
    unfold getE
    rw [from_head]
    cases (hiN tl (qE norm seq)).head? <;> rfl
  have hqlo := loN_lt tl (qE norm seq)
  have hqhi := hiN_not (qE norm seq) hsrt
  have HQ := Aside0.mk (And.intro hqlo hqhi)
  clear hL hB hr hfn hqlo hqhi hres
  go_enter Try.func18, Try.ntmps18
  go_upto_region 3 with (fail)
  have HB0 : Aside0 (Below w.heap.size w (w.alloc (Obj.cells #[.string ⟨#[]⟩, .int .i64 0, .int .i64 0, .string ⟨#[]⟩, .string ⟨#[]⟩] 30))) := ⟨below_alloc (Below.refl _ _) _⟩
  obtain ⟨gp, hgp⟩ : ∃ gp, gp = w.heap.size := ⟨_, rfl⟩
  have hbx0 := blk_new w (Obj.cells #[.string ⟨#[]⟩, .int .i64 0, .int .i64 0, .string ⟨#[]⟩, .string ⟨#[]⟩] 30)
  rw [← hgp] at hbx0 ⊢
  have hgp1 : w.heap.size ≤ gp := by omega
  generalize w.alloc (Obj.cells #[.string ⟨#[]⟩, .int .i64 0, .int .i64 0, .string ⟨#[]⟩, .string ⟨#[]⟩] 30) = w1 at *
  have HBX := Aside0.mk hbx0
  clear hbx0 hgp
  go_wp2_with (fail)
  refine (list_from.calls w1 g hd tl (loN tl (qE norm seq)) (hiN tl (qE norm seq)) G vh size (qE norm seq) (HL.out.below HB0.out) (lo_hiN _ _) HQ.out.1 HQ.out.2).mono ?_
  rintro e' w2 ⟨rfl, hb⟩
  obtain ⟨hd_, hhd⟩ : ∃ o, o = (hiN tl (qE norm seq)).head? := ⟨_, rfl⟩
  rw [← hhd] at hget ⊢
  have HMEM : Aside0 (∀ x, hd_ = some x → x ∈ hd :: tl) := ⟨fun x hx => by
    rw [hx] at hhd
    have hm := List.mem_of_mem_head? hhd.symm
    rw [← lo_hiN tl (qE norm seq)]
    exact List.mem_cons_of_mem _ (List.mem_append_right _ hm)⟩
  clear hhd
  have HB2 := Aside0.mk (below_step HB0.out hb)
  have HBX2 := Aside0.mk (blk_below HBX.out hb)
  clear HB0 hb HBX HQ
  obtain ⟨hb0, hb1, hb2, hb3, hb4⟩ := box_cells (e := ⟨⟨#[]⟩, 0, 0, ⟨#[]⟩, ⟨#[]⟩⟩) HBX2.out
  have hf0 := blk_frozen HBX2.out 0
  have hf1 := blk_frozen HBX2.out 1
  have hf2 := blk_frozen HBX2.out 2
  have hf3 := blk_frozen HBX2.out 3
  have hf4 := blk_frozen HBX2.out 4
  cases hd_ with
  | none =>
    rw [show ptrV (Option.map Nd.b (none : Option (Nd S30))) = .pointer none from rfl]
    have hget2 : none = res := hget
    subst hget2
    clear HMEM hget
    go_wp2_with (fail)
    refine bodyPost_ret (results_ct rfl _ _ gp 30 #[.string ⟨#[]⟩, .int .i64 0, .int .i64 0, .string ⟨#[]⟩, .string ⟨#[]⟩] (0, 0) _ rfl (set5_blk HBX2.out zE) Try.underlying30 rfl (by kernel_rfl)) rfl ?_
    exact ⟨rfl, set5_below HB2.out hgp1 zE⟩
  | some x =>
    rw [show ptrV (Option.map Nd.b (some x)) = .pointer (some ⟨x.b, 0, none⟩) from rfl]
    have hget2 : (if x.e.f0 = norm then some x.e else none) = res := hget
    obtain ⟨hx0, hx1, hx2, hx3, hx4⟩ := ((HL.out.nodes x (HMEM.out x rfl)).below HB2.out).ent_cells
    by_cases hc0 : x.e.f0 = norm
    · rw [if_pos hc0] at hget2
      subst hget2
      subst hc0
      clear HMEM hget
      go_wp2_with (fail)
      refine bodyPost_ret (results_ct rfl _ _ gp 30 #[.string x.e.f0, .int .i64 x.e.f1, .int .i64 x.e.f2, .string x.e.f3, .string x.e.f4] (0, 0) _ rfl (set5_blk HBX2.out x.e) Try.underlying30 rfl (by kernel_rfl)) rfl ?_
      exact ⟨rfl, set5_below HB2.out hgp1 x.e⟩
    · have hc0a : (x.e.f0 = norm) = False := eq_false hc0
      have hc0c : (x.e.f0.toList == norm.toList) = false := beq_eq_false_iff_ne.2 (fun hh => hc0 (toList_inj hh))
      rw [if_neg hc0] at hget2
      subst hget2
      clear HMEM hget
      go_wp2_with (fail)
      refine bodyPost_ret (results_ct rfl _ _ gp 30 #[.string ⟨#[]⟩, .int .i64 0, .int .i64 0, .string ⟨#[]⟩, .string ⟨#[]⟩] (0, 0) _ rfl (set5_blk HBX2.out zE) Try.underlying30 rfl (by kernel_rfl)) rfl ?_
      exact ⟨rfl, set5_below HB2.out hgp1 zE⟩
end Go.Proofs.Ytoglanahjlfihaa.MLst
