import Derived.Test.YtenmljkddhonmaaHMrg12
import Derived.Laws.EntriesVeiled
namespace Go.Proofs.Ytenmljkddhonmaa.MMrg
open Go.RowKit Go.Proofs.Ytenmljkddhonmaa.QMrg Go.Proofs.YtenmljkddhonmaaW.PrintWords Go.Proofs.YtenmljkddhonmaaW.PrintLast Go.Proofs.YtenmljkddhonmaaW.PrintMore
set_option linter.unusedVariables false
set_option linter.unusedSimpArgs false
theorem eFix : ∀ args w, (callFunc 38 args).run Try.prog w = .ok (.enter 38 args) w := enters_of Try.func38 (by kernel_rfl) rfl
theorem ePopH : ∀ args w, (callFunc 39 args).run Try.prog w = .ok (.enter 39 args) w := enters_of Try.func39 (by kernel_rfl) rfl
/-- A merger in memory: i of the target's entries were told. -/
structure MS (w0 : World) (K : SrcK w0) (ps : List (Option Nat)) (T : List S28) (B : Nat) (w : World) (m i : Nat) (q : List L28) (cnt : Nat → Nat) : Prop where
  mq : MQ B w (askV K.T ps) m q
  inv : Inv lessH T i q
  heap : HeapFrom (kOf Ln.r q) q.length 0
  st : K.St ps w q cnt ps.length
  src : ∀ l ∈ q, ∃ p, ps[l.at_]? = some (some p)
  short : q.length < 999999
  sum : ((List.range ps.length).map cnt).sum = ps.length + i
  old : ∀ j p : Nat, ps[j]? = some (some p) → p < B
  inj : ∀ i j p : Nat, ps[i]? = some (some p) → ps[j]? = some (some p) → i = j
  base : w0.heap.size ≤ B
  few : ps.length < 1000000
  below : Below w0.heap.size w0 w
theorem MS.at_lt {w0 : World} {K : SrcK w0} {ps : List (Option Nat)} {T : List S28} {B : Nat} {w : World} {m i : Nat} {q : List L28} {cnt : Nat → Nat} (h : MS w0 K ps T B w m i q cnt) : ∀ l ∈ q, l.at_ < 1000000 := by
  intro l hl
  obtain ⟨p, hp⟩ := h.src l hl
  have := (List.getElem?_eq_some_iff.1 hp).1
  have := h.few
  omega
theorem Inv.nil_of {T : List S28} {i : Nat} {q : List L28} (h : Inv lessH T i q) (hi : T.length ≤ i) : q = [] := by
  cases q with
  | nil => rfl
  | cons l q =>
    have := h.perm.length_eq
    rw [List.length_drop, List.length_zipIdx] at this
    unfold allOf items at this
    simp at this
    omega
set_option maxHeartbeats 8000000 in
set_option maxRecDepth 100000 in
theorem merged_Next_none (w0 : World) (K : SrcK w0) (ps : List (Option Nat)) (T : List S28) (B : Nat) (w : World) (m i : Nat) (q : List L28) (cnt : Nat → Nat) (hS : MS w0 K ps T B w m i q cnt) (hi : T.length ≤ i) :
    Calls Try.prog 18 #[.pointer (some ⟨m, 0, none⟩)] w fun e w' => e = .returned (tellV none) ∧ Below w.heap.size w w' := by
  obtain rfl := Inv.nil_of hS.inv hi
  have hcm : ∃ A c, w.heap[m]? = some (.cells #[.slice A 0 c] 74 (0, 0)) := by
    rcases hS.mq.2 with ⟨_, A, c, h⟩ | ⟨b, c, _, _, h⟩
    · exact ⟨A, c, h⟩
    · exact ⟨_, _, h.1⟩
  obtain ⟨A, c, hm⟩ := hcm
  have hml := blk_lt hm
  clear hS hi
  go_enter Try.func18, Try.ntmps18
  go_upto_region 1 with (fail)
  have HB1 := Aside0.mk (below_alloc (Below.refl w.heap.size w) (Obj.cells #[.string ⟨#[]⟩, .int .i64 0, .int .i64 0, .string ⟨#[]⟩, .string ⟨#[]⟩] 28))
  have hbx := Box5.new w z28
  have hb1 := blk_alloc hm (Obj.cells #[.string ⟨#[]⟩, .int .i64 0, .int .i64 0, .string ⟨#[]⟩, .string ⟨#[]⟩] 28)
  obtain ⟨gp, hgp⟩ : ∃ gp, gp = w.heap.size := ⟨_, rfl⟩
  rw [← hgp] at hbx ⊢
  have hgw : w.heap.size ≤ gp := by omega
  unfold z28 at hbx
  generalize w.alloc (Obj.cells #[.string ⟨#[]⟩, .int .i64 0, .int .i64 0, .string ⟨#[]⟩, .string ⟨#[]⟩] 28) = w1 at *
  have hcell : w1.cell? ⟨m, 0, none⟩ = some (.slice A 0 c) := by rw [blk_cell hb1 0]; rfl
  obtain ⟨f0, f1, f2, f3, f4⟩ := hbx.frozen
  obtain ⟨c0, c1, c2, c3, c4⟩ := hbx.cells
  have HBX := Aside0.mk hbx
  clear hb1 hm hbx
  clear hgp
  go_wp2_with (fail)
  refine bodyPost_ret (results_ct rfl _ _ gp 28 #[.string ⟨#[]⟩, .int .i64 0, .int .i64 0, .string ⟨#[]⟩, .string ⟨#[]⟩] (0, 0) _ rfl (set5_blk HBX.out z28) Try.underlying28 rfl (by kernel_rfl)) rfl ?_
  exact ⟨rfl, set5_below HB1.out hgw z28⟩
theorem QM.kept {w w' : World} {ask : Nat → Value} {m b c : Nat} {q : List L28} {S : Nat → Prop} (h : QM w ask m b c q) (hk : Kept w w' S) (hm : ¬ S m) (hb : ¬ S b) : QM w' ask m b c q := ⟨blk_kept h.1 hk hm, h.2.kept hk hb⟩
theorem set5l (A : List Value) (u0 u1 u2 u3 u4 v0 v1 v2 v3 v4 : Value) : (((((u0 :: u1 :: u2 :: u3 :: u4 :: A).set 0 v0).set 1 v1).set 2 v2).set 3 v3).set 4 v4 = v0 :: v1 :: v2 :: v3 :: v4 :: A := rfl
/-- The first element's entry, stored. -/
theorem QM.head {w : World} {ask : Nat → Value} {m b c : Nat} {l : L28} {q : List L28} (h : QM w ask m b c (l :: q)) (x : S28) (r : Nat) (t : List (S28 × Nat)) : QM (set5 w b x) ask m b c (⟨x, r, l.at_, t⟩ :: q) := by
  refine ⟨blk_kept h.1 (set5_kept w b x) (fun e => h.ne e), ?_⟩
  obtain ⟨tail, h2⟩ := h.2
  refine ⟨tail, ?_⟩
  unfold set5
  rw [blk_set (blk_set (blk_set (blk_set (blk_set h2 _ _) _ _) _ _) _ _) _ _]
  simp only [List.setIfInBounds_toArray]
  unfold flat
  rw [List.flatMap_cons, List.flatMap_cons]
  unfold hc
  simp only [List.cons_append, List.nil_append, List.append_assoc]
  rw [set5l]
/-- Asked once more. -/
def up1 (cnt : Nat → Nat) (a : Nat) (j : Nat) : Nat := if j = a then cnt j + 1 else cnt j
theorem up1_sum (cnt : Nat → Nat) (a : Nat) : ∀ n, a < n → ((List.range n).map (up1 cnt a)).sum = ((List.range n).map cnt).sum + 1
  | 0, h => absurd h (Nat.not_lt_zero _)
  | n + 1, h => by
    have hz : ∀ n, n ≤ a → ((List.range n).map (up1 cnt a)).sum = ((List.range n).map cnt).sum := by
      intro n hn
      congr 1
      refine List.map_congr_left fun j hj => ?_
      have := List.mem_range.1 hj
      unfold up1
      rw [if_neg (by omega)]
    rw [List.range_succ, List.map_append, List.map_append, List.sum_append, List.sum_append]
    by_cases ha : a = n
    · subst ha
      rw [hz a (Nat.le_refl _)]
      simp [up1]; omega
    · rw [up1_sum cnt a n (by omega)]
      simp [up1, Ne.symm ha]; omega
/-- The sources behind a step. -/
theorem SrcK.St.step {w0 : World} {K : SrcK w0} {ps : List (Option Nat)} {T : List S28} {i : Nat} {w w2 w3 w4 : World} {l : L28} {q q5 q' : List L28} {cnt : Nat → Nat} {p B : Nat} (h : K.St ps w (l :: q) cnt ps.length) (hk2 : Kept w w2 (fun _ => False)) (hk3 : Kept w2 w3 (fun k => k = p)) (hk4 : Kept w3 w4 (fun k => B ≤ k)) (hp : ps[l.at_]? = some (some p)) (hinj : ∀ i j p : Nat, ps[i]? = some (some p) → ps[j]? = some (some p) → i = j) (hold : ∀ j p : Nat, ps[j]? = some (some p) → p < B)
    (hnd : ((l :: q).map Ln.at_).Nodup) (hq' : ∀ x, x ∈ q' ↔ x ∈ q5)
    (h5 : (∃ x r t, q5 = ⟨x, r, l.at_, t⟩ :: q ∧ K.SP w3 p (t.map Prod.fst) (cnt l.at_ + 1)) ∨ (q5 = q ∧ K.SD w3 p (cnt l.at_ + 1))) : K.St ps w4 q' (up1 cnt l.at_) ps.length := by
  have hna : ∀ x ∈ q, x.at_ ≠ l.at_ := by
    rw [List.map_cons, List.nodup_cons] at hnd
    intro x hx e
    exact hnd.1 (by rw [← e]; exact List.mem_map_of_mem hx)
  intro j p2 hj hp2
  have hpB : ¬ B ≤ p2 := by have := hold j p2 hp2; omega
  obtain ⟨g1, g2⟩ := h j p2 hj hp2
  by_cases hjl : j = l.at_
  · subst hjl
    have hpp : p2 = p := by rw [hp] at hp2; injection hp2 with hp2; injection hp2 with hp2; exact hp2.symm
    subst hpp
    have hu : up1 cnt l.at_ l.at_ = cnt l.at_ + 1 := by unfold up1; rw [if_pos rfl]
    rw [hu]
    rcases h5 with ⟨x, r, t, rfl, hs⟩ | ⟨rfl, hs⟩
    · refine ⟨fun y hy ha => ?_, fun hn => absurd (rfl : (⟨x, r, l.at_, t⟩ : L28).at_ = l.at_) (hn ⟨x, r, l.at_, t⟩ ((hq' ⟨x, r, l.at_, t⟩).2 List.mem_cons_self))⟩
      rcases List.mem_cons.1 ((hq' y).1 hy) with rfl | hy
      · exact K.keepP hs hk4 hpB
      · exact absurd ha (hna y hy)
    · exact ⟨fun y hy ha => absurd ha (hna y ((hq' y).1 hy)), fun _ => K.keepD hs hk4 hpB⟩
  · have hu : up1 cnt l.at_ j = cnt j := by unfold up1; rw [if_neg hjl]
    rw [hu]
    have hpp : ¬ p2 = p := fun e => hjl (hinj j l.at_ p (by rw [← e]; exact hp2) hp)
    have hq5 : ∀ y ∈ q, y ∈ q' := by
      intro y hy
      rcases h5 with ⟨x, r, t, rfl, hs⟩ | ⟨rfl, hs⟩
      · exact (hq' y).2 (List.mem_cons_of_mem _ hy)
      · exact (hq' y).2 hy
    refine ⟨fun y hy ha => ?_, fun hn => K.keepD (K.keepD (K.keepD (g2 (fun y hy => ?_)) hk2 (fun h => h)) hk3 hpp) hk4 hpB⟩
    · have hyq : y ∈ q := by
        rcases h5 with ⟨x, r, t, rfl, hs⟩ | ⟨rfl, hs⟩
        · rcases List.mem_cons.1 ((hq' y).1 hy) with rfl | hy
          · exact absurd ha.symm hjl
          · exact hy
        · exact (hq' y).1 hy
      exact K.keepP (K.keepP (K.keepP (g1 y (List.mem_cons_of_mem _ hyq) ha) hk2 (fun h => h)) hk3 hpp) hk4 hpB
    · rcases List.mem_cons.1 hy with rfl | hy
      · exact fun e => hjl e.symm
      · exact hn y (hq5 y hy)
set_option maxHeartbeats 8000000 in
set_option maxRecDepth 100000 in
theorem merged_Next_more (w0 : World) (K : SrcK w0) (ps : List (Option Nat)) (T : List S28) (B : Nat) (w : World) (m i : Nat) (l : L28) (q : List L28) (cnt : Nat → Nat) (hS : MS w0 K ps T B w m i (l :: q) cnt) (x : S28) (r : Nat) (t : List (S28 × Nat)) (hrest : l.rest = (x, r) :: t) :
    Calls Try.prog 18 #[.pointer (some ⟨m, 0, none⟩)] w fun e w' => ∃ q' cnt', e = .returned (tellV (some l.e)) ∧ MS w0 K ps T B w' m (i + 1) q' cnt' ∧ Kept w w' (fun k => Ps ps k ∨ ∃ cs t, w.heap[k]? = some (.cells cs t (0, 0)) ∧ (t = 74 ∨ t = 76)) := by
  have hat := hS.at_lt
  obtain ⟨hmq, hinv, hheap, hst, hsrc, hshort, hsum, hold, hinj, hbase, hfew, hbelow⟩ := id hS
  obtain ⟨p, hp⟩ := hsrc l List.mem_cons_self
  have hask : askV K.T ps l.at_ = .iface K.T (.pointer (some ⟨p, 0, none⟩)) := by
    unfold askV
    rw [List.getD_eq_getElem?_getD, hp]; rfl
  obtain ⟨hBm, hmq2⟩ := hmq
  rcases hmq2 with ⟨h0, _⟩ | ⟨b, c, hBb, hcap, hqm⟩
  · cases h0
  obtain ⟨g1, _⟩ := hst l.at_ p (List.getElem?_eq_some_iff.1 hp).1 hp
  have hsp := g1 l List.mem_cons_self rfl
  rw [hrest] at hsp
  clear g1
  have hplt := hold _ _ hp
  have hpb : ¬ b = p := by omega
  have hpm : ¬ m = p := by omega
  have hblt : b < w.heap.size := by
    obtain ⟨_, tail, h⟩ := hqm
    exact blk_lt h
  have hmlt := blk_lt hqm.1
  have HQM := Aside0.mk hqm
  have HINV := Aside0.mk hinv
  have HHEAP := Aside0.mk hheap
  have HST := Aside0.mk hst
  have HSRC := Aside0.mk hsrc
  have HSUM := Aside0.mk hsum
  have HOLD := Aside0.mk hold
  have HINJ := Aside0.mk hinj
  have HB := Aside0.mk hbelow
  have HP := Aside0.mk hp
  have HSP := Aside0.mk hsp
  have HAT := Aside0.mk hat
  have HASK := Aside0.mk hask
  have HS := Aside0.mk hS
  have HR := Aside0.mk hrest
  have hmet := K.met ⟨p, 0, none⟩
  have hent := K.ent
  have hlen : (l :: q).length = q.length + 1 := rfl
  have hi1 : ((0 : Int) < (q.length : Int) + 1) = True := eq_true (by omega)
  have hi2 : (0 < q.length + 1) = True := eq_true (by omega)
  have hi3 : ((q.length : Int) + 1 == 0) = false := beq_eq_false_iff_ne.2 (by omega)
  clear hqm hinv hheap hst hsrc hsum hold hinj hbelow hp hsp hat hask hS hrest
  go_enter Try.func18, Try.ntmps18
  go_upto_region 1 with (fail)
  have HB1 := Aside0.mk (HB.out.alloc HB.out.size (Obj.cells #[.string ⟨#[]⟩, .int .i64 0, .int .i64 0, .string ⟨#[]⟩, .string ⟨#[]⟩] 28))
  have HQ1 := Aside0.mk (HQM.out.below (below_alloc (Below.refl _ _) (Obj.cells #[.string ⟨#[]⟩, .int .i64 0, .int .i64 0, .string ⟨#[]⟩, .string ⟨#[]⟩] 28)))
  have HK1 := Aside0.mk ((Kept.refl w (fun _ => False)).alloc (Obj.cells #[.string ⟨#[]⟩, .int .i64 0, .int .i64 0, .string ⟨#[]⟩, .string ⟨#[]⟩] 28))
  have hbx := Box5.new w z28
  have hBw : B ≤ w.heap.size := by omega
  obtain ⟨gp, hgp⟩ : ∃ gp, gp = w.heap.size := ⟨_, rfl⟩
  rw [← hgp] at hbx ⊢
  have hgw : w.heap.size ≤ gp := by omega
  clear hgp
  unfold z28 at hbx
  generalize w.alloc (Obj.cells #[.string ⟨#[]⟩, .int .i64 0, .int .i64 0, .string ⟨#[]⟩, .string ⟨#[]⟩] 28) = w1 at *
  have HBX1 := Aside0.mk hbx
  have hg1 := blk_lt hbx
  have hcm := HQ1.out.cell
  rw [hlen] at hcm
  obtain ⟨a0, a1, a2, a3, a4, a5, a6⟩ := HQ1.out.2.cells (i := 0) (by rw [hlen]; omega)
  simp only [Nat.zero_mul, Nat.zero_add, List.getElem_cons_zero] at a0 a1 a2 a3 a4 a5 a6
  rw [HASK.out] at a6
  clear hbx a5
  go_upto_region 5 with (fail)
  have HB2 := Aside0.mk (HB1.out.alloc HB1.out.size (Obj.cells #[.string l.e.f0, .int .i64 l.e.f1, .int .i64 l.e.f2, .string l.e.f3, .string l.e.f4] 28))
  have HQ2 := Aside0.mk (HQ1.out.below (below_alloc (Below.refl _ _) (Obj.cells #[.string l.e.f0, .int .i64 l.e.f1, .int .i64 l.e.f2, .string l.e.f3, .string l.e.f4] 28)))
  have HK2 := Aside0.mk (HK1.out.alloc (Obj.cells #[.string l.e.f0, .int .i64 l.e.f1, .int .i64 l.e.f2, .string l.e.f3, .string l.e.f4] 28))
  have HBX2 := Aside0.mk (blk_alloc HBX1.out (Obj.cells #[.string l.e.f0, .int .i64 l.e.f1, .int .i64 l.e.f2, .string l.e.f3, .string l.e.f4] 28))
  have hty := Box5.new w1 l.e
  obtain ⟨ty, htyp⟩ : ∃ ty, ty = w1.heap.size := ⟨_, rfl⟩
  rw [← htyp] at hty ⊢
  have htg : gp < ty := by omega
  clear htyp
  clear a0 a1 a2 a3 a4 a6 hcm
  generalize w1.alloc (Obj.cells #[.string l.e.f0, .int .i64 l.e.f1, .int .i64 l.e.f2, .string l.e.f3, .string l.e.f4] 28) = w2 at *
  have HTY2 := Aside0.mk hty
  obtain ⟨_, _, _, _, _, _, a6⟩ := HQ2.out.2.cells (i := 0) (by rw [hlen]; omega)
  simp only [Nat.zero_mul, Nat.zero_add, List.getElem_cons_zero] at a6
  rw [HASK.out] at a6
  have HSP2 := Aside0.mk (K.keepP HSP.out HK2.out (fun h => h))
  clear hty
  have hci := K.cons w2 p (cnt l.at_) x (t.map Prod.fst) HSP2.out HB2.out
  have HCI := Aside0.mk hci
  clear hci
  go_wp2_with (fail)
  refine HCI.out.mono ?_
  rintro e w3 ⟨rfl, h1, h2, h3⟩
  have HQ3 := Aside0.mk (HQ2.out.kept h2 hpm hpb)
  have HBX3 := Aside0.mk (Box5.kept (x := z28) HBX2.out h2 (by omega))
  have HTY3 := Aside0.mk (HTY2.out.kept h2 (by omega))
  have H1 := Aside0.mk h1
  have HK23 := Aside0.mk h2
  have HB3 := Aside0.mk h3
  clear h1 h2 h3 a6
  unfold tellV
  go_upto_region 6 with (fail)
  have HB4 := Aside0.mk (HB3.out.alloc HB3.out.size (Obj.cells #[.string x.f0, .int .i64 x.f1, .int .i64 x.f2, .string x.f3, .string x.f4] 28))
  have HQ4 := Aside0.mk (HQ3.out.below (below_alloc (Below.refl _ _) (Obj.cells #[.string x.f0, .int .i64 x.f1, .int .i64 x.f2, .string x.f3, .string x.f4] 28)))
  have HK4 := Aside0.mk ((Kept.refl w3 (fun k => k = b ∨ k = m ∨ k = gp)).alloc (Obj.cells #[.string x.f0, .int .i64 x.f1, .int .i64 x.f2, .string x.f3, .string x.f4] 28))
  have HBX4 := Aside0.mk (blk_alloc HBX3.out (Obj.cells #[.string x.f0, .int .i64 x.f1, .int .i64 x.f2, .string x.f3, .string x.f4] 28))
  have HTY4 := Aside0.mk (blk_alloc HTY3.out (Obj.cells #[.string x.f0, .int .i64 x.f1, .int .i64 x.f2, .string x.f3, .string x.f4] 28))
  have hex := Box5.new w3 x
  generalize w3.heap.size = ex at hex ⊢
  generalize w3.alloc (Obj.cells #[.string x.f0, .int .i64 x.f1, .int .i64 x.f2, .string x.f3, .string x.f4] 28) = w4 at *
  obtain ⟨x0, x1, x2, x3, x4⟩ := hex.cells
  obtain ⟨a0, a1, a2, a3, a4, _, _⟩ := HQ4.out.2.cells (i := 0) (by rw [hlen]; omega)
  simp only [Nat.zero_mul, Nat.zero_add, List.getElem_cons_zero] at a0 a1 a2 a3 a4
  have z0 := HQ4.out.2.frozen 0
  have z1 := HQ4.out.2.frozen 1
  have z2 := HQ4.out.2.frozen 2
  have z3 := HQ4.out.2.frozen 3
  have z4 := HQ4.out.2.frozen 4
  clear hex
  have hb0 : w0.heap.size ≤ b := by omega
  have HB5 := Aside0.mk (set5_below HB4.out hb0 x)
  have HQ5 := Aside0.mk (HQ4.out.head x r t)
  have HK5 := Aside0.mk (HK4.out.then_ (set5_kept w4 b x) (fun k hk => .inl (.inl hk)))
  have HBX5 := Aside0.mk (Box5.kept (x := z28) HBX4.out (set5_kept w4 b x) (by omega))
  have HTY5 := Aside0.mk (Box5.kept (x := l.e) HTY4.out (set5_kept w4 b x) (by omega))
  have hinv5 := HINV.out.next HHEAP.out HR.out
  have hsift : Sift (kOf Ln.r (⟨x, r, l.at_, t⟩ :: q)) (q.length + 1) 0 0 := by
    refine Sift.start (fun a c ha hc hac => ?_)
    have e : ∀ y, 1 ≤ y → kOf Ln.r ((⟨x, r, l.at_, t⟩ : L28) :: q) y = kOf Ln.r (l :: q) y := by
      intro y hy
      refine kOf_len _ ?_
      cases y with
      | zero => omega
      | succ y => rfl
    rw [e a ha, e c (by unfold Child at hac; omega)]
    exact HHEAP.out a c (Nat.zero_le _) hc hac
  have hcf := heap_Fix.calls w0 (set5 w4 b x) (askV K.T ps) m b c (⟨x, r, l.at_, t⟩ :: q) HQ5.out (by simp) (by simp only [List.length_cons] at hshort ⊢; omega) hinv5.agree (fun y hy => by
    rcases List.mem_cons.1 hy with rfl | hy
    · exact HAT.out l List.mem_cons_self
    · exact HAT.out y (List.mem_cons_of_mem _ hy)) hsift HB5.out hb0
  have HCF := Aside0.mk hcf
  have HINV5 := Aside0.mk hinv5
  have eF := eFix
  clear hcf hsift hinv5
  go_upto_region 8 with (fail)
  have hfin : (((((w4.setCell ⟨b, 0, none⟩ (.string x.f0)).setCell ⟨b, 1, none⟩ (.int .i64 x.f1)).setCell ⟨b, 2, none⟩ (.int .i64 x.f2)).setCell ⟨b, 3, none⟩ (.string x.f3)).setCell ⟨b, 4, none⟩ (.string x.f4)) = set5 w4 b x := rfl
  rw [hfin]
  clear hfin x0 x1 x2 x3 x4 a0 a1 a2 a3 a4 z0 z1 z2 z3 z4
  generalize set5 w4 b x = w5 at *
  go_wp2_with (fail)
  refine HCF.out.mono ?_
  rintro e w6 ⟨q', rfl, h1, h2, h3, h4, h5⟩
  have HQ6 := Aside0.mk h1
  have HPERM := Aside0.mk h2
  have HHP := Aside0.mk h3
  have HK56 := Aside0.mk h4
  have HB6 := Aside0.mk h5
  have hbx6 := Box5.kept HBX5.out h4 (by omega)
  have hty6 := Box5.kept HTY5.out h4 (by omega)
  obtain ⟨t0, t1, t2, t3, t4⟩ := hty6.cells
  obtain ⟨f0, f1, f2, f3, f4⟩ := hbx6.frozen
  obtain ⟨c0, c1, c2, c3, c4⟩ := hbx6.cells
  have HBX6 := Aside0.mk hbx6
  clear h1 h2 h3 h4 h5 hbx6 hty6
  unfold z28 at c0 c1 c2 c3 c4
  go_wp2_with (fail)
  have hsz := HB.out.size
  have hk6 : Kept w6 (set5 w6 gp l.e) (fun k => k = gp) := set5_kept w6 gp l.e
  have hk36s := (HK5.out.then_ HK56.out (fun k hk => .inl (.inl hk))).then_ hk6 (fun k hk => .inl (.inr (.inr hk)))
  have hk36 : Kept w3 (set5 w6 gp l.e) (fun k => B ≤ k) := hk36s.mono (fun k hk => by omega)
  have hst := HST.out.step (T := T) (i := i) HK2.out HK23.out hk36 HP.out HINJ.out HOLD.out HINV.out.agree.1 (q' := q') (fun y => HPERM.out.mem_iff) (.inl ⟨x, r, t, rfl, H1.out⟩)
  refine bodyPost_ret (results_ct rfl _ _ gp 28 #[.string l.e.f0, .int .i64 l.e.f1, .int .i64 l.e.f2, .string l.e.f3, .string l.e.f4] (0, 0) _ rfl (set5_blk HBX6.out l.e) Try.underlying28 rfl (by kernel_rfl)) rfl ?_
  refine ⟨q', up1 cnt l.at_, rfl, ⟨⟨hBm, .inr ⟨b, c, hBb, by rw [HPERM.out.length_eq]; exact hcap, HQ6.out.kept hk6 (by omega) (by omega)⟩⟩, HINV5.out.of_perm HPERM.out, HHP.out, hst, fun y hy => ?_, by rw [HPERM.out.length_eq]; exact hshort, ?_, HOLD.out, HINJ.out, hbase, hfew, set5_below HB6.out (by omega) l.e⟩, ?_⟩
  · rcases List.mem_cons.1 (HPERM.out.mem_iff.1 hy) with rfl | hy
    · exact ⟨p, HP.out⟩
    · exact HSRC.out y (List.mem_cons_of_mem _ hy)
  · rw [up1_sum cnt l.at_ ps.length (List.getElem?_eq_some_iff.1 HP.out).1, HSUM.out]; omega
  · exact (((HK2.out.mono (fun k hk => hk.elim)).then_ HK23.out (fun k hk => .inl (.inl ⟨l.at_, by rw [hk]; exact HP.out⟩))).then_ hk36s (fun k hk => by
    rcases hk with rfl | rfl | rfl
    · obtain ⟨_, tail, hrow⟩ := HQM.out
      exact .inl (.inr ⟨_, _, hrow, .inr rfl⟩)
    · exact .inl (.inr ⟨_, _, HQM.out.1, .inl rfl⟩)
    · exact .inr hgw))
set_option maxHeartbeats 8000000 in
set_option maxRecDepth 100000 in
theorem merged_Next_last (w0 : World) (K : SrcK w0) (ps : List (Option Nat)) (T : List S28) (B : Nat) (w : World) (m i : Nat) (l : L28) (q : List L28) (cnt : Nat → Nat) (hS : MS w0 K ps T B w m i (l :: q) cnt) (hrest : l.rest = []) :
    Calls Try.prog 18 #[.pointer (some ⟨m, 0, none⟩)] w fun e w' => ∃ q' cnt', e = .returned (tellV (some l.e)) ∧ MS w0 K ps T B w' m (i + 1) q' cnt' ∧ Kept w w' (fun k => Ps ps k ∨ ∃ cs t, w.heap[k]? = some (.cells cs t (0, 0)) ∧ (t = 74 ∨ t = 76)) := by
  have hat := hS.at_lt
  obtain ⟨hmq, hinv, hheap, hst, hsrc, hshort, hsum, hold, hinj, hbase, hfew, hbelow⟩ := id hS
  obtain ⟨p, hp⟩ := hsrc l List.mem_cons_self
  have hask : askV K.T ps l.at_ = .iface K.T (.pointer (some ⟨p, 0, none⟩)) := by
    unfold askV
    rw [List.getD_eq_getElem?_getD, hp]; rfl
  obtain ⟨hBm, hmq2⟩ := hmq
  rcases hmq2 with ⟨h0, _⟩ | ⟨b, c, hBb, hcap, hqm⟩
  · cases h0
  obtain ⟨g1, _⟩ := hst l.at_ p (List.getElem?_eq_some_iff.1 hp).1 hp
  have hsp := g1 l List.mem_cons_self rfl
  rw [hrest] at hsp
  clear g1
  have hplt := hold _ _ hp
  have hpb : ¬ b = p := by omega
  have hpm : ¬ m = p := by omega
  have hblt : b < w.heap.size := by
    obtain ⟨_, tail, h⟩ := hqm
    exact blk_lt h
  have hmlt := blk_lt hqm.1
  have HQM := Aside0.mk hqm
  have HINV := Aside0.mk hinv
  have HHEAP := Aside0.mk hheap
  have HST := Aside0.mk hst
  have HSRC := Aside0.mk hsrc
  have HSUM := Aside0.mk hsum
  have HOLD := Aside0.mk hold
  have HINJ := Aside0.mk hinj
  have HB := Aside0.mk hbelow
  have HP := Aside0.mk hp
  have HSP := Aside0.mk hsp
  have HAT := Aside0.mk hat
  have HASK := Aside0.mk hask
  have HS := Aside0.mk hS
  have HR := Aside0.mk hrest
  have hmet := K.met ⟨p, 0, none⟩
  have hent := K.ent
  have hlen : (l :: q).length = q.length + 1 := rfl
  have hi1 : ((0 : Int) < (q.length : Int) + 1) = True := eq_true (by omega)
  have hi2 : (0 < q.length + 1) = True := eq_true (by omega)
  have hi3 : ((q.length : Int) + 1 == 0) = false := beq_eq_false_iff_ne.2 (by omega)
  clear hqm hinv hheap hst hsrc hsum hold hinj hbelow hp hsp hat hask hS hrest
  go_enter Try.func18, Try.ntmps18
  go_upto_region 1 with (fail)
  have HB1 := Aside0.mk (HB.out.alloc HB.out.size (Obj.cells #[.string ⟨#[]⟩, .int .i64 0, .int .i64 0, .string ⟨#[]⟩, .string ⟨#[]⟩] 28))
  have HQ1 := Aside0.mk (HQM.out.below (below_alloc (Below.refl _ _) (Obj.cells #[.string ⟨#[]⟩, .int .i64 0, .int .i64 0, .string ⟨#[]⟩, .string ⟨#[]⟩] 28)))
  have HK1 := Aside0.mk ((Kept.refl w (fun _ => False)).alloc (Obj.cells #[.string ⟨#[]⟩, .int .i64 0, .int .i64 0, .string ⟨#[]⟩, .string ⟨#[]⟩] 28))
  have hbx := Box5.new w z28
  have hBw : B ≤ w.heap.size := by omega
  obtain ⟨gp, hgp⟩ : ∃ gp, gp = w.heap.size := ⟨_, rfl⟩
  rw [← hgp] at hbx ⊢
  have hgw : w.heap.size ≤ gp := by omega
  clear hgp
  unfold z28 at hbx
  generalize w.alloc (Obj.cells #[.string ⟨#[]⟩, .int .i64 0, .int .i64 0, .string ⟨#[]⟩, .string ⟨#[]⟩] 28) = w1 at *
  have HBX1 := Aside0.mk hbx
  have hg1 := blk_lt hbx
  have hcm := HQ1.out.cell
  rw [hlen] at hcm
  obtain ⟨a0, a1, a2, a3, a4, a5, a6⟩ := HQ1.out.2.cells (i := 0) (by rw [hlen]; omega)
  simp only [Nat.zero_mul, Nat.zero_add, List.getElem_cons_zero] at a0 a1 a2 a3 a4 a5 a6
  rw [HASK.out] at a6
  clear hbx a5
  go_upto_region 5 with (fail)
  have HB2 := Aside0.mk (HB1.out.alloc HB1.out.size (Obj.cells #[.string l.e.f0, .int .i64 l.e.f1, .int .i64 l.e.f2, .string l.e.f3, .string l.e.f4] 28))
  have HQ2 := Aside0.mk (HQ1.out.below (below_alloc (Below.refl _ _) (Obj.cells #[.string l.e.f0, .int .i64 l.e.f1, .int .i64 l.e.f2, .string l.e.f3, .string l.e.f4] 28)))
  have HK2 := Aside0.mk (HK1.out.alloc (Obj.cells #[.string l.e.f0, .int .i64 l.e.f1, .int .i64 l.e.f2, .string l.e.f3, .string l.e.f4] 28))
  have HBX2 := Aside0.mk (blk_alloc HBX1.out (Obj.cells #[.string l.e.f0, .int .i64 l.e.f1, .int .i64 l.e.f2, .string l.e.f3, .string l.e.f4] 28))
  have hty := Box5.new w1 l.e
  obtain ⟨ty, htyp⟩ : ∃ ty, ty = w1.heap.size := ⟨_, rfl⟩
  rw [← htyp] at hty ⊢
  have htg : gp < ty := by omega
  clear htyp
  clear a0 a1 a2 a3 a4 a6 hcm
  generalize w1.alloc (Obj.cells #[.string l.e.f0, .int .i64 l.e.f1, .int .i64 l.e.f2, .string l.e.f3, .string l.e.f4] 28) = w2 at *
  have HTY2 := Aside0.mk hty
  obtain ⟨_, _, _, _, _, _, a6⟩ := HQ2.out.2.cells (i := 0) (by rw [hlen]; omega)
  simp only [Nat.zero_mul, Nat.zero_add, List.getElem_cons_zero] at a6
  rw [HASK.out] at a6
  have HSP2 := Aside0.mk (K.keepP HSP.out HK2.out (fun h => h))
  clear hty
  have hci := K.nil w2 p (cnt l.at_) HSP2.out HB2.out
  have HCI := Aside0.mk hci
  clear hci
  go_wp2_with (fail)
  refine HCI.out.mono ?_
  rintro e w3 ⟨rfl, h1, h2, h3⟩
  have HQ3 := Aside0.mk (HQ2.out.kept h2 hpm hpb)
  have HBX3 := Aside0.mk (Box5.kept (x := z28) HBX2.out h2 (by omega))
  have HTY3 := Aside0.mk (HTY2.out.kept h2 (by omega))
  have H1 := Aside0.mk h1
  have HK23 := Aside0.mk h2
  have HB3 := Aside0.mk h3
  clear h1 h2 h3 a6
  unfold tellV
  go_upto_region 6 with (fail)
  have HB4 := Aside0.mk (HB3.out.alloc HB3.out.size (Obj.cells #[.string ⟨#[]⟩, .int .i64 0, .int .i64 0, .string ⟨#[]⟩, .string ⟨#[]⟩] 28))
  have HQ4 := Aside0.mk (HQ3.out.below (below_alloc (Below.refl _ _) (Obj.cells #[.string ⟨#[]⟩, .int .i64 0, .int .i64 0, .string ⟨#[]⟩, .string ⟨#[]⟩] 28)))
  have HK4 := Aside0.mk ((Kept.refl w3 (fun k => k = b ∨ k = m ∨ k = gp)).alloc (Obj.cells #[.string ⟨#[]⟩, .int .i64 0, .int .i64 0, .string ⟨#[]⟩, .string ⟨#[]⟩] 28))
  have HBX4 := Aside0.mk (blk_alloc HBX3.out (Obj.cells #[.string ⟨#[]⟩, .int .i64 0, .int .i64 0, .string ⟨#[]⟩, .string ⟨#[]⟩] 28))
  have HTY4 := Aside0.mk (blk_alloc HTY3.out (Obj.cells #[.string ⟨#[]⟩, .int .i64 0, .int .i64 0, .string ⟨#[]⟩, .string ⟨#[]⟩] 28))
  generalize w3.heap.size = ex
  generalize w3.alloc (Obj.cells #[.string ⟨#[]⟩, .int .i64 0, .int .i64 0, .string ⟨#[]⟩, .string ⟨#[]⟩] 28) = w4 at *
  have hb0 : w0.heap.size ≤ b := by omega
  have hinv5 := HINV.out.last HHEAP.out HR.out
  have hcf := heap_Pop.calls w0 w4 (askV K.T ps) m b c l q HQ4.out (by simpa using hcap) (by simp only [List.length_cons] at hshort; omega) HINV.out.agree HAT.out HHEAP.out HB4.out hb0 (by omega)
  have HCF := Aside0.mk hcf
  have HINV5 := Aside0.mk hinv5
  have eF := ePopH
  clear hcf hinv5
  go_wp2_with (fail)
  refine HCF.out.mono ?_
  rintro e w6 ⟨v, q', rfl, h1, h2, h3, h4, h5⟩
  have HQ6 := Aside0.mk h1
  have HPERM := Aside0.mk h2
  have HHP := Aside0.mk h3
  have HK56 := Aside0.mk h4
  have HB6 := Aside0.mk h5
  have hbx6 := Box5.kept (x := z28) HBX4.out h4 (by omega)
  have hty6 := Box5.kept (x := l.e) HTY4.out h4 (by omega)
  obtain ⟨t0, t1, t2, t3, t4⟩ := hty6.cells
  obtain ⟨f0, f1, f2, f3, f4⟩ := hbx6.frozen
  obtain ⟨c0, c1, c2, c3, c4⟩ := hbx6.cells
  have HBX6 := Aside0.mk hbx6
  clear h1 h2 h3 h4 h5 hbx6 hty6
  unfold z28 at c0 c1 c2 c3 c4
  go_wp2_with (fail)
  have hsz := HB.out.size
  have hk6 : Kept w6 (set5 w6 gp l.e) (fun k => k = gp) := set5_kept w6 gp l.e
  have hk36s := (HK4.out.then_ HK56.out (fun k hk => .inl (by rcases hk with hk | hk <;> simp [hk]))).then_ hk6 (fun k hk => .inl (.inr (.inr hk)))
  have hk36 : Kept w3 (set5 w6 gp l.e) (fun k => B ≤ k) := hk36s.mono (fun k hk => by omega)
  have hst := HST.out.step (T := T) (i := i) HK2.out HK23.out hk36 HP.out HINJ.out HOLD.out HINV.out.agree.1 (q' := q') (fun y => HPERM.out.mem_iff) (.inr ⟨rfl, H1.out⟩)
  refine bodyPost_ret (results_ct rfl _ _ gp 28 #[.string l.e.f0, .int .i64 l.e.f1, .int .i64 l.e.f2, .string l.e.f3, .string l.e.f4] (0, 0) _ rfl (set5_blk HBX6.out l.e) Try.underlying28 rfl (by kernel_rfl)) rfl ?_
  refine ⟨q', up1 cnt l.at_, rfl, ⟨⟨hBm, .inr ⟨b, c, hBb, by rw [HPERM.out.length_eq]; simp only [List.length_cons] at hcap; omega, HQ6.out.kept hk6 (by omega) (by omega)⟩⟩, HINV5.out.of_perm HPERM.out, HHP.out, hst, fun y hy => HSRC.out y (List.mem_cons_of_mem _ (HPERM.out.mem_iff.1 hy)), by rw [HPERM.out.length_eq]; simp only [List.length_cons] at hshort; omega, ?_, HOLD.out, HINJ.out, hbase, hfew, set5_below HB6.out (by omega) l.e⟩, ?_⟩
  · rw [up1_sum cnt l.at_ ps.length (List.getElem?_eq_some_iff.1 HP.out).1, HSUM.out]; omega
  · exact (((HK2.out.mono (fun k hk => hk.elim)).then_ HK23.out (fun k hk => .inl (.inl ⟨l.at_, by rw [hk]; exact HP.out⟩))).then_ hk36s (fun k hk => by
    rcases hk with rfl | rfl | rfl
    · obtain ⟨_, tail, hrow⟩ := HQM.out
      exact .inl (.inr ⟨_, _, hrow, .inr rfl⟩)
    · exact .inl (.inr ⟨_, _, HQM.out.1, .inl rfl⟩)
    · exact .inr hgw))
/-- The next entry is told. -/
theorem merged_Next_some (w0 : World) (K : SrcK w0) (ps : List (Option Nat)) (T : List S28) (B : Nat) (w : World) (m i : Nat) (q : List L28) (cnt : Nat → Nat) (hS : MS w0 K ps T B w m i q cnt) (x : S28) (hx : T[i]? = some x) :
    Calls Try.prog 18 #[.pointer (some ⟨m, 0, none⟩)] w fun e w' => ∃ q' cnt', e = .returned (tellV (some x)) ∧ MS w0 K ps T B w' m (i + 1) q' cnt' ∧ Kept w w' (fun k => Ps ps k ∨ ∃ cs t, w.heap[k]? = some (.cells cs t (0, 0)) ∧ (t = 74 ∨ t = 76)) := by
  cases q with
  | nil =>
    have h1 := hS.inv.done
    have h2 := (List.getElem?_eq_some_iff.1 hx).1
    omega
  | cons l q =>
    have he : l.e = x := by
      have := (hS.inv.first hS.heap).2.1
      rw [hx] at this
      injection this with this
      exact this.symm
    subst he
    cases hr : l.rest with
    | nil => exact merged_Next_last w0 K ps T B w m i l q cnt hS hr
    | cons xr t => exact merged_Next_more w0 K ps T B w m i l q cnt hS xr.1 xr.2 t (by rw [hr])
theorem MS.src_blk {w0 : World} {K : SrcK w0} {ps : List (Option Nat)} {T : List S28} {B : Nat} {w : World} {m i : Nat} {q : List L28} {cnt : Nat → Nat} (h : MS w0 K ps T B w m i q cnt) {j p : Nat} (hp : ps[j]? = some (some p)) : ∃ cs, w.heap[p]? = some (.cells cs K.bt (0, 0)) := by
  obtain ⟨g1, g2⟩ := h.st j p (List.getElem?_eq_some_iff.1 hp).1 hp
  by_cases hex : ∃ l ∈ q, l.at_ = j
  · obtain ⟨l, hl, ha⟩ := hex
    exact K.blkP (g1 l hl ha)
  · exact K.blkD (g2 (fun l hl ha => hex ⟨l, hl, ha⟩))
/-- A row of entries stays behind a step. -/
theorem MS.row {w0 : World} {K : SrcK w0} {ps : List (Option Nat)} {T : List S28} {B : Nat} {w w' : World} {m i : Nat} {q : List L28} {cnt : Nat → Nat} (h : MS w0 K ps T B w m i q cnt) (hk : Kept w w' (fun k => Ps ps k ∨ ∃ cs t, w.heap[k]? = some (.cells cs t (0, 0)) ∧ (t = 74 ∨ t = 76))) {α : Type} {d : Kd α} {e base : Nat} {ok : Nat → Prop} {v : Value} {xs : List α} (hr : d.R e w base ok v xs) (hd : ∀ t, t ∈ e :: d.E → t ≠ 74 ∧ t ≠ 76 ∧ t ≠ K.bt) : d.R e w' base ok v xs := by
  refine R_kept hr hk (fun k hk2 hlt => ?_)
  rcases hk2 with ⟨j, hj⟩ | ⟨cs, t, hc, ht⟩
  · obtain ⟨cs, hc⟩ := h.src_blk hj
    exact ⟨cs, _, hc, fun t ht => (hd t ht).2.2⟩
  · refine ⟨cs, t, hc, fun q hq => ?_⟩
    have := hd q hq
    rcases ht with rfl | rfl
    · exact this.1
    · exact this.2.1
theorem MS.box {w0 : World} {K : SrcK w0} {ps : List (Option Nat)} {T : List S28} {B : Nat} {w w' : World} {m i : Nat} {q : List L28} {cnt : Nat → Nat} (h : MS w0 K ps T B w m i q cnt) (hk : Kept w w' (fun k => Ps ps k ∨ ∃ cs t, w.heap[k]? = some (.cells cs t (0, 0)) ∧ (t = 74 ∨ t = 76))) {gp : Nat} {x : S28} (hb : Box5 w gp x) : Box5 w' gp x := by
  refine hb.kept hk (fun hs => ?_)
  rcases hs with ⟨j, hj⟩ | ⟨cs, t, hc, ht⟩
  · obtain ⟨cs, hc⟩ := h.src_blk hj
    unfold Box5 at hb
    rw [hb] at hc
    injection hc with hc
    injection hc with _ hc
    exact K.hbt.2.2.1 hc.symm
  · unfold Box5 at hb
    rw [hb] at hc
    injection hc with hc
    injection hc with _ hc
    rcases ht with rfl | rfl <;> cases hc
end Go.Proofs.Ytenmljkddhonmaa.MMrg
