import Derived.Test.YtenmljkddhonmaaHMrg9
import Derived.Laws.EntriesVeiled
namespace Go.Proofs.Ytenmljkddhonmaa.MMrg
open Go.RowKit Go.Proofs.Ytenmljkddhonmaa.QMrg Go.Proofs.YtenmljkddhonmaaW.PrintWords Go.Proofs.YtenmljkddhonmaaW.PrintLast Go.Proofs.YtenmljkddhonmaaW.PrintMore
set_option linter.unusedVariables false
set_option linter.unusedSimpArgs false
abbrev eV (x : S28) : Value := .agg #[.string x.f0, .int .i64 x.f1, .int .i64 x.f2, .string x.f3, .string x.f4]
/-- What a source tells. -/
def tellV : Option S28 → Value
  | some x => .tuple #[.agg #[.string x.f0, .int .i64 x.f1, .int .i64 x.f2, .string x.f3, .string x.f4], .bool true]
  | none => .tuple #[.agg #[.string ⟨#[]⟩, .int .i64 0, .int .i64 0, .string ⟨#[]⟩, .string ⟨#[]⟩], .bool false]
/-- A list's source. -/
def SlP (w0 w : World) (p : Nat) (xs : List S28) (c : Nat) : Prop := w0.heap.size ≤ p ∧ ∃ A cc, w.heap[p]? = some (.cells #[.slice A xs.length cc] 112 (0, 0)) ∧ xs.length ≤ cc ∧ Kd.C k28 w0 A xs.length xs
/-- The five cells of an entry, stored. -/
def set5 (w : World) (gp : Nat) (x : S28) : World := ((((w.setCell ⟨gp, 0, none⟩ (.string x.f0)).setCell ⟨gp, 1, none⟩ (.int .i64 x.f1)).setCell ⟨gp, 2, none⟩ (.int .i64 x.f2)).setCell ⟨gp, 3, none⟩ (.string x.f3)).setCell ⟨gp, 4, none⟩ (.string x.f4)
/-- An entry in its box. -/
def Box5 (w : World) (gp : Nat) (x : S28) : Prop := w.heap[gp]? = some (.cells #[.string x.f0, .int .i64 x.f1, .int .i64 x.f2, .string x.f3, .string x.f4] 28 (0, 0))
theorem set5_blk {w : World} {gp : Nat} {y : S28} (h : Box5 w gp y) (x : S28) : Box5 (set5 w gp x) gp x :=
  blk_set (blk_set (blk_set (blk_set (blk_set h 0 _) 1 _) 2 _) 3 _) 4 _
theorem set5_below {w w0 : World} {gp : Nat} (h : Below w0.heap.size w0 w) (hg : w0.heap.size ≤ gp) (x : S28) : Below w0.heap.size w0 (set5 w gp x) :=
  below_set (below_set (below_set (below_set (below_set h hg) hg) hg) hg) hg
theorem set5_kept (w : World) (gp : Nat) (x : S28) : Kept w (set5 w gp x) (fun k => k = gp) := by
  have hS : ∀ (W : World) (i : Nat) (v : Value), Kept w W (fun k => k = gp) → Kept w (W.setCell ⟨gp, i, none⟩ v) (fun k => k = gp) := fun W i v h => Kept.setCell (S := fun k => k = gp) (p := ⟨gp, i, none⟩) h (.inl rfl) v
  exact hS _ _ _ (hS _ _ _ (hS _ _ _ (hS _ _ _ (hS _ _ _ (Kept.refl w _)))))
theorem Box5.cells {w : World} {gp : Nat} {x : S28} (h : Box5 w gp x) : w.cell? ⟨gp, 0, none⟩ = some (.string x.f0) ∧ w.cell? ⟨gp, 1, none⟩ = some (.int .i64 x.f1) ∧ w.cell? ⟨gp, 2, none⟩ = some (.int .i64 x.f2) ∧ w.cell? ⟨gp, 3, none⟩ = some (.string x.f3) ∧ w.cell? ⟨gp, 4, none⟩ = some (.string x.f4) :=
  ⟨by rw [blk_cell h 0]; rfl, by rw [blk_cell h 1]; rfl, by rw [blk_cell h 2]; rfl, by rw [blk_cell h 3]; rfl, by rw [blk_cell h 4]; rfl⟩
theorem Box5.frozen {w : World} {gp : Nat} {x : S28} (h : Box5 w gp x) : w.frozen? ⟨gp, 0, none⟩ = false ∧ w.frozen? ⟨gp, 1, none⟩ = false ∧ w.frozen? ⟨gp, 2, none⟩ = false ∧ w.frozen? ⟨gp, 3, none⟩ = false ∧ w.frozen? ⟨gp, 4, none⟩ = false :=
  ⟨blk_frozen h 0, blk_frozen h 1, blk_frozen h 2, blk_frozen h 3, blk_frozen h 4⟩
theorem Box5.new (w : World) (x : S28) : Box5 (w.alloc (Obj.cells #[.string x.f0, .int .i64 x.f1, .int .i64 x.f2, .string x.f3, .string x.f4] 28)) w.heap.size x := blk_new w _
theorem Box5.below {w w' : World} {gp : Nat} {x : S28} (h : Box5 w gp x) (hb : Below w.heap.size w w') : Box5 w' gp x := blk_below h hb
theorem Box5.kept {w w' : World} {gp : Nat} {x : S28} {S : Nat → Prop} (h : Box5 w gp x) (hk : Kept w w' S) (hb : ¬ S gp) : Box5 w' gp x := blk_kept h hk hb
theorem entry_at {w : World} {A : Option Addr} {x : S28} {xs : List S28} (h : Kd.C k28 w A (xs.length + 1) (x :: xs)) : ∃ ad, A = some ad ∧ w.cell? ad = some (.string x.f0) ∧ w.cell? ⟨ad.block, ad.off + 1, none⟩ = some (.int .i64 x.f1) ∧ w.cell? ⟨ad.block, ad.off + 2, none⟩ = some (.int .i64 x.f2) ∧ w.cell? ⟨ad.block, ad.off + 3, none⟩ = some (.string x.f3) ∧ w.cell? ⟨ad.block, ad.off + 4, none⟩ = some (.string x.f4) := by
  obtain ⟨ad, e, h0, h1, h2, h3, h4⟩ := at_T28 h 0 (Int.le_refl _) (by omega)
  have hx : rd_T28 (x :: xs) 0 = x := rfl
  have ha : ad.add ((0 : Int).toNat * 5) = ad := by unfold Addr.add; simp
  rw [hx] at h0 h1 h2 h3 h4
  rw [ha] at h0 h1 h2 h3 h4
  exact ⟨ad, e, h0, h1, h2, h3, h4⟩
set_option maxHeartbeats 8000000 in
set_option maxRecDepth 100000 in
theorem slice_Next_nil (w0 w : World) (p c : Nat) (hs : SlP w0 w p [] c) (hB : Below w0.heap.size w0 w) :
    Calls Try.prog 116 #[.pointer (some ⟨p, 0, none⟩)] w fun e w' => e = .returned (tellV none) ∧ Kept w w' (fun _ => False) ∧ Below w0.heap.size w0 w' := by
  obtain ⟨hp0, A, cc, hb, hl, hC⟩ := hs
  have HBL := Aside0.mk hb
  have HB := Aside0.mk hB
  have hl0 : ([] : List S28).length = 0 := rfl
  rw [hl0] at hb HBL
  clear hC hB hl hl0
  go_enter Try.func116, Try.ntmps116
  go_upto_region 1 with (fail)
  have HB1 := Aside0.mk (HB.out.alloc HB.out.size (Obj.cells #[.string ⟨#[]⟩, .int .i64 0, .int .i64 0, .string ⟨#[]⟩, .string ⟨#[]⟩] 28))
  have HK1 : Aside0 (Kept w (w.alloc (Obj.cells #[.string ⟨#[]⟩, .int .i64 0, .int .i64 0, .string ⟨#[]⟩, .string ⟨#[]⟩] 28)) (fun _ => False)) := ⟨(Kept.refl _ _).below (below_alloc (Below.refl _ _) _)⟩
  have hbx := Box5.new w z28
  have hb1 := blk_alloc hb (Obj.cells #[.string ⟨#[]⟩, .int .i64 0, .int .i64 0, .string ⟨#[]⟩, .string ⟨#[]⟩] 28)
  have hsz := HB.out.size
  obtain ⟨gp, hgp⟩ : ∃ gp, gp = w.heap.size := ⟨_, rfl⟩
  rw [← hgp] at hbx ⊢
  have hgp1 : w0.heap.size ≤ gp := by omega
  have hgw : w.heap.size ≤ gp := by omega
  unfold z28 at hbx
  generalize w.alloc (Obj.cells #[.string ⟨#[]⟩, .int .i64 0, .int .i64 0, .string ⟨#[]⟩, .string ⟨#[]⟩] 28) = w1 at *
  have hcell : w1.cell? ⟨p, 0, none⟩ = some (.slice A 0 cc) := by rw [blk_cell hb1 0]; rfl
  obtain ⟨f0, f1, f2, f3, f4⟩ := hbx.frozen
  obtain ⟨c0, c1, c2, c3, c4⟩ := hbx.cells
  have HBX := Aside0.mk hbx
  clear hb hb1 hgp hbx hsz
  go_wp2_with (fail)
  refine bodyPost_ret (results_ct rfl _ _ gp 28 #[.string ⟨#[]⟩, .int .i64 0, .int .i64 0, .string ⟨#[]⟩, .string ⟨#[]⟩] (0, 0) _ rfl (set5_blk HBX.out z28) Try.underlying28 rfl (by kernel_rfl)) rfl ?_
  exact ⟨rfl, HK1.out.then_ (set5_kept w1 gp z28) (fun k hk => .inr (by omega)), set5_below HB1.out hgp1 z28⟩
set_option maxHeartbeats 8000000 in
set_option maxRecDepth 100000 in
theorem slice_Next_cons (w0 w : World) (p c : Nat) (x : S28) (xs : List S28) (hs : SlP w0 w p (x :: xs) c) (hB : Below w0.heap.size w0 w) :
    Calls Try.prog 116 #[.pointer (some ⟨p, 0, none⟩)] w fun e w' => e = .returned (tellV (some x)) ∧ SlP w0 w' p xs (c + 1) ∧ Kept w w' (fun k => k = p) ∧ Below w0.heap.size w0 w' := by
  obtain ⟨hp0, A, cc, hb, hl, hC⟩ := hs
  have hlen : (x :: xs).length = xs.length + 1 := rfl
  rw [hlen] at hb hl hC
  obtain ⟨ad, rfl, e0, e1, e2, e3, e4⟩ := entry_at hC
  have HBL := Aside0.mk hb
  have HB := Aside0.mk hB
  have HC := Aside0.mk hC
  obtain ⟨i0, hi0, _, hsz5, _⟩ := info_parts info28
  have hcut := cut_from (P := Try.prog) 24 28 .i64 Try.underlying24 hi0 5 hsz5 (some ad) (xs.length + 1) cc 1 (by decide) (by omega)
  have hCd : Kd.C k28 w0 (if cc = 1 then some ad else (some ad).map (·.add (1 * 5))) xs.length xs := Kd.C_drop (m := 1) (c := cc) hC (by simp) (by simpa using hl)
  have HCD := Aside0.mk hCd
  have hcut2 : ∀ W : World, (Instr.slice 24 (.slice (some ad) (xs.length + 1) cc) (some (.int .i64 1)) none none).run Try.prog W = .ok (.slice (if cc = 1 then some ad else (some ad).map (·.add (1 * 5))) xs.length (cc - 1)) W := hcut
  generalize (if cc = 1 then some ad else (some ad).map (·.add (1 * 5))) = A2 at HCD hcut2
  have hi1 : ((0 : Int) < (xs.length : Int) + 1) = True := eq_true (by omega)
  have hi2 : (0 < xs.length + 1) = True := eq_true (by omega)
  clear hC hB hlen hcut hi0 hsz5 hCd
  go_enter Try.func116, Try.ntmps116
  go_upto_region 1 with (fail)
  have HB1 := Aside0.mk (HB.out.alloc HB.out.size (Obj.cells #[.string ⟨#[]⟩, .int .i64 0, .int .i64 0, .string ⟨#[]⟩, .string ⟨#[]⟩] 28))
  have HK1 : Aside0 (Kept w (w.alloc (Obj.cells #[.string ⟨#[]⟩, .int .i64 0, .int .i64 0, .string ⟨#[]⟩, .string ⟨#[]⟩] 28)) (fun k => k = p)) := ⟨(Kept.refl _ _).below (below_alloc (Below.refl _ _) _)⟩
  have hbx := Box5.new w z28
  have hb1 := blk_alloc hb (Obj.cells #[.string ⟨#[]⟩, .int .i64 0, .int .i64 0, .string ⟨#[]⟩, .string ⟨#[]⟩] 28)
  have hsz := HB.out.size
  have hplt := blk_lt hb
  obtain ⟨gp, hgp⟩ : ∃ gp, gp = w.heap.size := ⟨_, rfl⟩
  rw [← hgp] at hbx ⊢
  have hgp1 : w0.heap.size ≤ gp := by omega
  have hgw : w.heap.size ≤ gp := by omega
  have hpg : p ≠ gp := by omega
  unfold z28 at hbx
  generalize w.alloc (Obj.cells #[.string ⟨#[]⟩, .int .i64 0, .int .i64 0, .string ⟨#[]⟩, .string ⟨#[]⟩] 28) = w1 at *
  have hcell : w1.cell? ⟨p, 0, none⟩ = some (.slice (some ad) (xs.length + 1) cc) := by rw [blk_cell hb1 0]; rfl
  have g0 := pw_cell_below HB1.out e0
  have g1 := pw_cell_below HB1.out e1
  have g2 := pw_cell_below HB1.out e2
  have g3 := pw_cell_below HB1.out e3
  have g4 := pw_cell_below HB1.out e4
  have HBX := Aside0.mk hbx
  have HP1 := Aside0.mk hb1
  have hplt1 := blk_lt hb1
  have hglt1 := blk_lt hbx
  obtain ⟨f0, f1, f2, f3, f4⟩ := hbx.frozen
  obtain ⟨c0, c1, c2, c3, c4⟩ := hbx.cells
  have hfp := blk_frozen hb1 0
  clear hb hb1 hgp hbx hsz e0 e1 e2 e3 e4
  go_wp2_with (fail)
  have hk : Kept w1 (w1.setCell ⟨p, 0, none⟩ (.slice A2 xs.length (cc - 1))) (fun k => k = p) := Kept.setCell (S := fun k => k = p) (p := ⟨p, 0, none⟩) (Kept.refl _ _) (.inl rfl) _
  have hb2 := below_set (v := .slice A2 xs.length (cc - 1)) (j := 0) HB1.out hp0
  have hbx2 := Box5.kept (x := z28) HBX.out hk (fun e => hpg e.symm)
  have hbp2 := blk_set HP1.out 0 (.slice A2 xs.length (cc - 1))
  generalize w1.setCell ⟨p, 0, none⟩ (.slice A2 xs.length (cc - 1)) = w2 at *
  have hk2 := set5_kept w2 gp x
  have hb3 := set5_below hb2 hgp1 x
  have hbx3 := set5_blk hbx2 x
  have hbp3 := blk_kept hbp2 hk2 hpg
  have hk3 := (HK1.out.then_ hk (fun k hk => .inl hk)).then_ hk2 (fun k hk => .inr (by omega))
  have hfin : (((((w2.setCell ⟨gp, 0, none⟩ (.string x.f0)).setCell ⟨gp, 1, none⟩ (.int .i64 x.f1)).setCell ⟨gp, 2, none⟩ (.int .i64 x.f2)).setCell ⟨gp, 3, none⟩ (.string x.f3)).setCell ⟨gp, 4, none⟩ (.string x.f4)) = set5 w2 gp x := rfl
  rw [hfin]
  generalize set5 w2 gp x = w3 at *
  refine bodyPost_ret (results_ct rfl _ _ gp 28 #[.string x.f0, .int .i64 x.f1, .int .i64 x.f2, .string x.f3, .string x.f4] (0, 0) _ rfl (Box5.below hbx3 (below_alloc (Below.refl _ _) _)) Try.underlying28 rfl (by kernel_rfl)) rfl ?_
  exact ⟨rfl, ⟨hp0, A2, cc - 1, blk_alloc hbp3 _, by omega, HCD.out⟩, hk3.alloc _, hb3.alloc hb3.size _⟩
/-- A told list's source: asked c times. -/
def TlP (w0 w : World) (p : Nat) (xs : List S28) (c : Nat) : Prop := w0.heap.size ≤ p ∧ ∃ A cc L, w.heap[p]? = some (.cells #[.slice A L.length cc, .int .i64 (c : Int)] 35 (0, 0)) ∧ L.length ≤ cc ∧ Kd.C k28 w0 A L.length L ∧ xs = L.drop c ∧ c ≤ L.length ∧ L.length < 1000000
def TlD (w0 w : World) (p : Nat) (c : Nat) : Prop := w0.heap.size ≤ p ∧ ∃ v, w.heap[p]? = some (.cells #[v, .int .i64 (c : Int)] 35 (0, 0))
set_option maxHeartbeats 8000000 in
set_option maxRecDepth 100000 in
theorem told_Next_nil (w0 w : World) (p c : Nat) (hs : TlP w0 w p [] c) (hB : Below w0.heap.size w0 w) :
    Calls Try.prog 110 #[.pointer (some ⟨p, 0, none⟩)] w fun e w' => e = .returned (tellV none) ∧ TlD w0 w' p (c + 1) ∧ Kept w w' (fun k => k = p) ∧ Below w0.heap.size w0 w' := by
  obtain ⟨hp0, A, cc, L, hb, hl, hC, hx, hcl, hL⟩ := hs
  have hcL : c = L.length := by
    have := congrArg List.length hx
    rw [List.length_drop, List.length_nil] at this
    omega
  subst hcL
  have HBL := Aside0.mk hb
  have HB := Aside0.mk hB
  have hw1 : IntKind.i64.wrap ((L.length : Int) + 1) = (L.length : Int) + 1 := by rw [IntKind.wrap_i64]; omega
  have hgt : ((L.length : Int) < (L.length : Int) + 1) = True := eq_true (by omega)
  clear hC hB hl hx
  go_enter Try.func110, Try.ntmps110
  go_upto_region 1 with (fail)
  have HB1 := Aside0.mk (HB.out.alloc HB.out.size (Obj.cells #[.string ⟨#[]⟩, .int .i64 0, .int .i64 0, .string ⟨#[]⟩, .string ⟨#[]⟩] 28))
  have HK1 : Aside0 (Kept w (w.alloc (Obj.cells #[.string ⟨#[]⟩, .int .i64 0, .int .i64 0, .string ⟨#[]⟩, .string ⟨#[]⟩] 28)) (fun k => k = p)) := ⟨(Kept.refl _ _).below (below_alloc (Below.refl _ _) _)⟩
  have hbx := Box5.new w z28
  have hb1 := blk_alloc hb (Obj.cells #[.string ⟨#[]⟩, .int .i64 0, .int .i64 0, .string ⟨#[]⟩, .string ⟨#[]⟩] 28)
  have hsz := HB.out.size
  have hplt := blk_lt hb
  obtain ⟨gp, hgp⟩ : ∃ gp, gp = w.heap.size := ⟨_, rfl⟩
  rw [← hgp] at hbx ⊢
  have hgp1 : w0.heap.size ≤ gp := by omega
  have hgw : w.heap.size ≤ gp := by omega
  have hpg : p ≠ gp := by omega
  unfold z28 at hbx
  generalize w.alloc (Obj.cells #[.string ⟨#[]⟩, .int .i64 0, .int .i64 0, .string ⟨#[]⟩, .string ⟨#[]⟩] 28) = w1 at *
  have hcell : w1.cell? ⟨p, 0, none⟩ = some (.slice A L.length cc) := by rw [blk_cell hb1 0]; rfl
  have hcell1 : w1.cell? ⟨p, 1, none⟩ = some (.int .i64 (L.length : Int)) := by rw [blk_cell hb1 1]; rfl
  have hfp := blk_frozen hb1 1
  obtain ⟨f0, f1, f2, f3, f4⟩ := hbx.frozen
  obtain ⟨c0, c1, c2, c3, c4⟩ := hbx.cells
  have HBX := Aside0.mk hbx
  have HP1 := Aside0.mk hb1
  have hplt1 := blk_lt hb1
  have hglt1 := blk_lt hbx
  clear hb hb1 hgp hbx hsz
  go_wp2_with (fail)
  go_quiet (fail)
  go_wp2_with (fail)
  have hk : Kept w1 ((w1.setCell ⟨p, 1, none⟩ (.int .i64 ((L.length : Int) + 1))).drewN nq) (fun k => k = p) := Kept.drewN (Kept.setCell (S := fun k => k = p) (p := ⟨p, 1, none⟩) (Kept.refl _ _) (.inl rfl) _) nq
  have hb2 := pw_below_drewN (below_set (v := .int .i64 ((L.length : Int) + 1)) (j := 1) HB1.out hp0) nq
  have hbx2 := Box5.kept (x := z28) HBX.out hk (fun e => hpg e.symm)
  have hbp2 := blk_drewN (blk_set HP1.out 1 (.int .i64 ((L.length : Int) + 1))) nq
  generalize (w1.setCell ⟨p, 1, none⟩ (.int .i64 ((L.length : Int) + 1))).drewN nq = w2 at *
  have hk2 := set5_kept w2 gp z28
  have hb3 := set5_below hb2 hgp1 z28
  have hbp3 := blk_kept hbp2 hk2 hpg
  have hk3 := (HK1.out.then_ hk (fun k hk => .inl hk)).then_ hk2 (fun k hk => .inr (by omega))
  refine bodyPost_ret (results_ct rfl _ _ gp 28 #[.string ⟨#[]⟩, .int .i64 0, .int .i64 0, .string ⟨#[]⟩, .string ⟨#[]⟩] (0, 0) _ rfl (set5_blk hbx2 z28) Try.underlying28 rfl (by kernel_rfl)) rfl ?_
  exact ⟨rfl, ⟨hp0, _, hbp3⟩, hk3, hb3⟩
set_option maxHeartbeats 8000000 in
set_option maxRecDepth 100000 in
theorem told_Next_cons (w0 w : World) (p c : Nat) (x : S28) (xs : List S28) (hs : TlP w0 w p (x :: xs) c) (hB : Below w0.heap.size w0 w) :
    Calls Try.prog 110 #[.pointer (some ⟨p, 0, none⟩)] w fun e w' => e = .returned (tellV (some x)) ∧ TlP w0 w' p xs (c + 1) ∧ Kept w w' (fun k => k = p) ∧ Below w0.heap.size w0 w' := by
  obtain ⟨hp0, A, cc, L, hb, hl, hC, hx, hcl, hL⟩ := hs
  have hcL : c < L.length := by
    have := congrArg List.length hx
    rw [List.length_drop, List.length_cons] at this
    omega
  have hxs : xs = L.drop (c + 1) ∧ rd_T28 L (c : Int) = x := by
    rw [List.drop_eq_getElem_cons hcL] at hx
    injection hx with h1 h2
    refine ⟨h2, ?_⟩
    unfold rd_T28
    rw [h1]
    simp [hcL]
  have HXS := Aside0.mk hxs.1
  have HBL := Aside0.mk hb
  have HB := Aside0.mk hB
  obtain ⟨ad, rfl, e0, e1, e2, e3, e4⟩ := at_T28 hC (c : Int) (by omega) (by omega)
  rw [hxs.2] at e0 e1 e2 e3 e4
  have hcn : (c : Int).toNat = c := by omega
  rw [hcn] at e0 e1 e2 e3 e4
  have HC := Aside0.mk hC
  have hw1 : IntKind.i64.wrap ((c : Int) + 1) = (c : Int) + 1 := by rw [IntKind.wrap_i64]; omega
  have hw2 : IntKind.i64.wrap ((c : Int) + 1 - 1) = (c : Int) := by rw [IntKind.wrap_i64]; omega
  have hgt : ((L.length : Int) < (c : Int) + 1) = False := eq_false (by omega)
  have hi0 : ((0 : Int) ≤ (c : Int)) = True := eq_true (by omega)
  have hi1 : ((c : Int) < (L.length : Int)) = True := eq_true (by omega)
  have hi2 : (c < L.length) = True := eq_true hcL
  clear hC hB hx hxs hcn
  go_enter Try.func110, Try.ntmps110
  go_upto_region 1 with (fail)
  have HB1 := Aside0.mk (HB.out.alloc HB.out.size (Obj.cells #[.string ⟨#[]⟩, .int .i64 0, .int .i64 0, .string ⟨#[]⟩, .string ⟨#[]⟩] 28))
  have HK1 : Aside0 (Kept w (w.alloc (Obj.cells #[.string ⟨#[]⟩, .int .i64 0, .int .i64 0, .string ⟨#[]⟩, .string ⟨#[]⟩] 28)) (fun k => k = p)) := ⟨(Kept.refl _ _).below (below_alloc (Below.refl _ _) _)⟩
  have hbx := Box5.new w z28
  have hb1 := blk_alloc hb (Obj.cells #[.string ⟨#[]⟩, .int .i64 0, .int .i64 0, .string ⟨#[]⟩, .string ⟨#[]⟩] 28)
  have hsz := HB.out.size
  have hplt := blk_lt hb
  obtain ⟨gp, hgp⟩ : ∃ gp, gp = w.heap.size := ⟨_, rfl⟩
  rw [← hgp] at hbx ⊢
  have hgp1 : w0.heap.size ≤ gp := by omega
  have hgw : w.heap.size ≤ gp := by omega
  have hpg : p ≠ gp := by omega
  unfold z28 at hbx
  generalize w.alloc (Obj.cells #[.string ⟨#[]⟩, .int .i64 0, .int .i64 0, .string ⟨#[]⟩, .string ⟨#[]⟩] 28) = w1 at *
  have hcell : w1.cell? ⟨p, 0, none⟩ = some (.slice (some ad) L.length cc) := by rw [blk_cell hb1 0]; rfl
  have hcell1 : w1.cell? ⟨p, 1, none⟩ = some (.int .i64 (c : Int)) := by rw [blk_cell hb1 1]; rfl
  have hfp := blk_frozen hb1 1
  have HBX := Aside0.mk hbx
  have HP1 := Aside0.mk hb1
  clear hb hb1 hgp hbx hsz hplt
  go_wp2_with (fail)
  go_quiet (fail)
  have HK : Aside0 (Kept w1 ((w1.setCell ⟨p, 1, none⟩ (.int .i64 ((c : Int) + 1))).drewN nq) (fun k => k = p)) := ⟨Kept.drewN (Kept.setCell (S := fun k => k = p) (p := ⟨p, 1, none⟩) (Kept.refl _ _) (.inl rfl) _) nq⟩
  have HB2 := Aside0.mk (pw_below_drewN (below_set (v := .int .i64 ((c : Int) + 1)) (j := 1) HB1.out hp0) nq)
  have hbx2 := Box5.kept (x := z28) HBX.out HK.out (fun e => hpg e.symm)
  have hbp2 := blk_drewN (blk_set HP1.out 1 (.int .i64 ((c : Int) + 1))) nq
  generalize (w1.setCell ⟨p, 1, none⟩ (.int .i64 ((c : Int) + 1))).drewN nq = w2 at *
  clear hcell hcell1 hfp
  have hcell : w2.cell? ⟨p, 0, none⟩ = some (.slice (some ad) L.length cc) := by rw [blk_cell hbp2 0]; rfl
  have hcell1 : w2.cell? ⟨p, 1, none⟩ = some (.int .i64 ((c : Int) + 1)) := by rw [blk_cell hbp2 1]; rfl
  have g0 := pw_cell_below HB2.out e0
  have g1 := pw_cell_below HB2.out e1
  have g2 := pw_cell_below HB2.out e2
  have g3 := pw_cell_below HB2.out e3
  have g4 := pw_cell_below HB2.out e4
  obtain ⟨f0, f1, f2, f3, f4⟩ := hbx2.frozen
  obtain ⟨c0, c1, c2, c3, c4⟩ := hbx2.cells
  have HBX2 := Aside0.mk hbx2
  have HP2 := Aside0.mk hbp2
  clear hbx2 hbp2 e0 e1 e2 e3 e4
  unfold z28 at c0 c1 c2 c3 c4
  go_wp2_with (fail)
  go_region
  all_goals
    have hk2 := set5_kept w2 gp x
    have hb3 := set5_below HB2.out hgp1 x
    have hbp3 := blk_kept HP2.out hk2 hpg
    have hk3 := (HK1.out.then_ HK.out (fun k hk => .inl hk)).then_ hk2 (fun k hk => .inr (by omega))
    have hbx3 := set5_blk HBX2.out x
    clear f0 f1 f2 f3 f4 c0 c1 c2 c3 c4 g0 g1 g2 g3 g4 hcell hcell1
    go_wp2_with (fail)
    refine bodyPost_ret (results_ct rfl _ _ gp 28 #[.string x.f0, .int .i64 x.f1, .int .i64 x.f2, .string x.f3, .string x.f4] (0, 0) _ rfl (blk_drew hbx3) Try.underlying28 rfl (by kernel_rfl)) rfl ?_
    exact ⟨rfl, ⟨hp0, some ad, cc, L, blk_drew hbp3, hl, HC.out, HXS.out, by omega, hL⟩, hk3.drew, below_drew hb3⟩
end Go.Proofs.Ytenmljkddhonmaa.MMrg
