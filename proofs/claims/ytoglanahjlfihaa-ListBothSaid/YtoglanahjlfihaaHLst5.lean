import Derived.Test.YtoglanahjlfihaaHLst4
namespace Go.Proofs.Ytoglanahjlfihaa.MLst
open Go.RowKit Go.Proofs.Ytoglanahjlfihaa.QLst Go.Proofs.YtoglanahjlfihaaW.PrintWords Go.Proofs.YtoglanahjlfihaaW.PrintLast Go.Proofs.YtoglanahjlfihaaW.PrintMore
set_option linter.unusedVariables false
set_option linter.unusedSimpArgs false
theorem Apart.ne2 {ns a t c : List (Nd S30)} {y z : Nd S30} (h : Apart ns) (e : ns = a ++ y :: (t ++ z :: c)) : y.b ≠ z.b ∧ y.n ≠ z.n := by
  unfold Apart at h
  rw [e] at h
  simp only [List.flatMap_append, List.flatMap_cons, List.nodup_append, List.mem_append, List.mem_cons] at h
  exact ⟨fun hh => h.2.1.2.2 y.b (.inl rfl) z.b (.inr (.inl (.inl rfl))) hh, fun hh => h.2.1.2.2 y.n (.inr (.inl rfl)) z.n (.inr (.inl (.inr (.inl rfl)))) hh⟩
theorem Apart.two {ns : List (Nd S30)} {y z : Nd S30} (h : Apart ns) (hy : y ∈ ns) (hz : z ∈ ns) : z = y ∨ (z.b ≠ y.b ∧ z.n ≠ y.n) := by
  obtain ⟨a, c, e⟩ := List.append_of_mem hy
  rw [e] at hz
  rcases List.mem_append.1 hz with hm | hm
  · obtain ⟨s, t, e2⟩ := List.append_of_mem hm
    exact .inr (Apart.ne2 h (a := s) (t := t) (c := c) (by rw [e, e2]; simp))
  · rcases List.mem_cons.1 hm with rfl | hm
    · exact .inl rfl
    · obtain ⟨s, t, e2⟩ := List.append_of_mem hm
      have := Apart.ne2 h (a := a) (t := s) (c := t) (by rw [e, e2])
      exact .inr ⟨this.1.symm, this.2.symm⟩
theorem NdB.set {w : World} {G : Nat → Nat → Option Nat} {y z : Nd S30} {j : Nat} {v : Option Nat} (hz : NdB w G z) (hy : NdB w G y) (hd : z = y ∨ (z.b ≠ y.b ∧ z.n ≠ y.n)) : NdB (w.setCell ⟨y.n, j, none⟩ (ptrV v)) (upd G y.b j v) z := by
  have hne : z.b ≠ y.n := blk_ne hz.1 hy.2 (by decide)
  refine ⟨blk_far hz.1 hne _, ?_⟩
  rcases hd with rfl | ⟨h1, h2⟩
  · rw [blk_set hz.2 j (ptrV v), rowV_set]
    congr 1
    congr 1
    apply rowV_congr
    intro k _
    unfold upd
    by_cases hk : k = j
    · rw [if_pos hk, if_pos ⟨rfl, hk⟩]
    · rw [if_neg hk, if_neg (fun hh => hk hh.2)]
  · rw [blk_far hz.2 h2 _]
    congr 1
    congr 1
    apply rowV_congr
    intro k _
    unfold upd
    rw [if_neg (fun hh => h1 hh.1)]
/-- What Put may write: the list's own block, and the rows. -/
def Foot (g : Nat) (ns : List (Nd S30)) (i : Nat) : Prop := i = g ∨ ∃ y ∈ ns, i = y.n
/-- A list of one's own. -/
def LO (w0 w : World) (g : Nat) (hd : Nd S30) (tl : List (Nd S30)) (hs : List Int) (size : Int) : Prop := ∃ G vh, Lst w g hd tl G vh size ∧ Below w0.heap.size w0 w ∧ w0.heap.size ≤ g ∧ (∀ y ∈ hd :: tl, w0.heap.size ≤ y.n) ∧ Kd.R (Kd.int .i64) 3 w w0.heap.size (fun _ => True) vh hs
theorem heights_kept {w w' : World} {base : Nat} {S : Nat → Prop} {v : Value} {l : List Int} (h : Kd.R (Kd.int .i64) 3 w base (fun _ => True) v l) (hk : Kept w w' S) (hS : ∀ i, S i → ∃ cs t, w.heap[i]? = some (.cells cs t (0, 0)) ∧ t ≠ 3) : Kd.R (Kd.int .i64) 3 w' base (fun _ => True) v l := by
  have hown := Kd.own_of_R (enc := Value.int .i64) (h1 := fun _ => rfl) h
  refine Kd.R_of_own (own_move hown (fun k hk2 => hk.2 k (own_lt hown k hk2) (fun hs => ?_))) h.1
  obtain ⟨cells, hcell⟩ := own_typed hown k hk2
  obtain ⟨cs, t, hc, ht⟩ := hS k hs
  rw [hcell] at hc
  injection hc with hc
  injection hc with _ ht2
  exact ht ht2.symm
theorem LO.kept {w0 w w' : World} {g : Nat} {hd : Nd S30} {tl : List (Nd S30)} {hs : List Int} {size : Int} {S : Nat → Prop} (h : LO w0 w g hd tl hs size) (hk : Kept w w' S) (hB : Below w0.heap.size w0 w') (hS : ∀ i, S i → i ≠ g ∧ (∀ y ∈ hd :: tl, i ≠ y.n) ∧ ∃ cs t, w.heap[i]? = some (.cells cs t (0, 0)) ∧ t ≠ 88 ∧ t ≠ 3) : LO w0 w' g hd tl hs size := by
  obtain ⟨G, vh, hL, _, hg, hn, hr⟩ := h
  refine ⟨G, vh, ⟨blk_kept hL.blk hk (fun hs => (hS _ hs).1 rfl), hL.h8, fun y hy => ⟨blk_kept (hL.nodes y hy).1 hk (fun hs => ?_), blk_kept (hL.nodes y hy).2 hk (fun hs => (hS _ hs).2.1 y hy rfl)⟩, hL.lk, hL.tall, hL.apart⟩, hB, hg, hn, heights_kept hr hk (fun i hi => by
    obtain ⟨_, _, cs, t, h1, _, h2⟩ := hS i hi
    exact ⟨cs, t, h1, h2⟩)⟩
  obtain ⟨_, _, cs, t, hc, ht, _⟩ := hS _ hs
  have := (hL.nodes y hy).1
  rw [hc] at this
  injection this with this
  injection this with _ ht2
  exact ht ht2
theorem LO.below {w0 w w' : World} {g : Nat} {hd : Nd S30} {tl : List (Nd S30)} {hs : List Int} {size : Int} (h : LO w0 w g hd tl hs size) (hb : Below w.heap.size w w') : LO w0 w' g hd tl hs size := by
  obtain ⟨G, vh, hL, hB, _⟩ := id h
  exact h.kept (S := fun _ => False) (Kept.of_below hb _) (below_step hB hb) (fun _ hs => hs.elim)
/-- The two parts of a list by an entry. -/
def loN (tl : List (Nd S30)) (q : S30) : List (Nd S30) := tl.takeWhile (fun y => ltE y.e q)
def hiN (tl : List (Nd S30)) (q : S30) : List (Nd S30) := tl.dropWhile (fun y => ltE y.e q)
theorem lo_hiN (tl : List (Nd S30)) (q : S30) : loN tl q ++ hiN tl q = tl := List.takeWhile_append_dropWhile
theorem loN_map (q : S30) : ∀ tl : List (Nd S30), (loN tl q).map Nd.e = lo (tl.map Nd.e) q
  | [] => rfl
  | y :: tl => by
    unfold loN lo
    rw [List.map_cons, List.takeWhile_cons, List.takeWhile_cons]
    by_cases h : ltE y.e q = true
    · rw [if_pos h, if_pos h, List.map_cons]; exact congrArg _ (loN_map q tl)
    · rw [if_neg h, if_neg h]; rfl
theorem hiN_map (q : S30) : ∀ tl : List (Nd S30), (hiN tl q).map Nd.e = hi (tl.map Nd.e) q
  | [] => rfl
  | y :: tl => by
    unfold hiN hi
    rw [List.map_cons, List.dropWhile_cons, List.dropWhile_cons]
    by_cases h : ltE y.e q = true
    · rw [if_pos h, if_pos h]; exact hiN_map q tl
    · rw [if_neg h, if_neg h]; rfl
theorem loN_lt (tl : List (Nd S30)) (q : S30) : ∀ y ∈ loN tl q, ltE y.e q = true := by
  intro y hy
  exact lo_lt (tl.map Nd.e) q y.e (by rw [← loN_map]; exact List.mem_map_of_mem hy)
theorem hiN_not {tl : List (Nd S30)} (q : S30) (hs : Srt (tl.map Nd.e)) : ∀ y ∈ hiN tl q, ltE y.e q = false := by
  intro y hy
  exact hi_not (tl.map Nd.e) q hs y.e (by rw [← hiN_map]; exact List.mem_map_of_mem hy)
theorem from_head (tl : List (Nd S30)) (q : S30) : fromE (tl.map Nd.e) q = (hiN tl q).head?.map Nd.e := by
  unfold fromE
  rw [← hiN_map, List.head?_map]
theorem apart_ins {pre post : List (Nd S30)} {x : Nd S30} (h : Apart (pre ++ post)) (hx : ∀ y ∈ pre ++ post, y.b ≠ x.b ∧ y.n ≠ x.n) (hbn : x.b ≠ x.n) (hy : ∀ y ∈ pre ++ post, y.b ≠ x.n ∧ y.n ≠ x.b) : Apart (pre ++ x :: post) := by
  unfold Apart at *
  have hp : List.Perm ((pre ++ x :: post).flatMap fun y => [y.b, y.n]) ((x :: (pre ++ post)).flatMap fun y => [y.b, y.n]) := List.Perm.flatMap_right _ List.perm_middle
  refine hp.symm.nodup ?_
  rw [List.flatMap_cons, List.nodup_append]
  refine ⟨by simpa using hbn, h, fun a ha b hb hh => ?_⟩
  subst hh
  rw [List.mem_flatMap] at hb
  obtain ⟨y, hy1, hy2⟩ := hb
  simp only [List.mem_cons, List.not_mem_nil, or_false] at ha hy2
  have h1 := hx y hy1
  have h2 := hy y hy1
  rcases ha with rfl | rfl <;> rcases hy2 with e | e
  · exact h1.1 e.symm
  · exact h2.2 e.symm
  · exact h2.1 e.symm
  · exact h1.2 e.symm
theorem nd_other {w w3 : World} {G G0 : Nat → Nat → Option Nat} {y : Nd S30} {gx : Nat} (h : NdB w G y) (hb : Below w.heap.size w w3) (hG : G0 = fun b k => if b = gx then none else G b k) (hne : y.b ≠ gx) : NdB w3 G0 y := by
  have h2 := h.below hb
  refine ⟨h2.1, h2.2.trans ?_⟩
  congr 1
  congr 1
  exact rowV_congr fun k _ => by rw [hG]; exact (if_neg hne).symm
theorem put_step (wr w0 w : World) (g : Nat) (hd : Nd S30) (tl pre post : List (Nd S30)) (G1 : Nat → Nat → Option Nat) (x y : Nd S30) (j : Nat) {Ah : Option Addr} {ch : Nat} {hs : List Int} {size : Int} {gp gw : Nat} {e : S30} {W : Nat → Option Nat} (kk ht : Nat) (hap : Apart (pre ++ x :: post)) (hmem : y ∈ pre ++ x :: post) (hpm : y ∈ hd :: tl) (hN : ∀ z ∈ pre ++ x :: post, NdB wr G1 z) (hlk : LkJ pre x post (upd (upd G1 x.b j (nxt post j)) y.b j (some x.b)) (j + 1))
    (hblk : wr.heap[g]? = some (.cells #[.pointer (some ⟨hd.b, 0, none⟩), .slice Ah hs.length ch, .int .i64 tl.length, .int .i64 size] 90 (0, 0))) (hkp : Kept w wr (Foot g (hd :: tl))) (hhg : Kd.R (Kd.int .i64) 3 wr w0.heap.size (fun _ => True) (.slice Ah hs.length ch) hs) (hbb : Below w0.heap.size w0 wr) (hbx : wr.heap[gp]? = some (.cells #[.string e.f0, .int .i64 e.f1, .int .i64 e.f2, .string e.f3, .string e.f4] 30 (0, 0))) (hw : wr.heap[gw]? = some (.cells (rowV W 8) 85 (0, 0))) (h1 : w0.heap.size ≤ y.n) (h2 : w.heap.size ≤ x.n) (h3 : w0.heap.size ≤ x.n) (h4 : y.n < gw) (h5 : x.n < gw) (hj : j + (kk + 1) = ht) :
    ∃ (j' : Nat) (G2 : Nat → Nat → Option Nat), Value.int .i64 ((j : Int) + 1) = .int .i64 (j' : Int) ∧ j' + kk = ht ∧ Aside0 (∀ z ∈ pre ++ x :: post, NdB ((wr.setCell ⟨x.n, j, none⟩ (ptrV (nxt post j))).setCell ⟨y.n, j, none⟩ (ptrV (some x.b))).drew G2 z) ∧ Aside0 (LkJ pre x post G2 j') ∧ Aside0 (((wr.setCell ⟨x.n, j, none⟩ (ptrV (nxt post j))).setCell ⟨y.n, j, none⟩ (ptrV (some x.b))).drew.heap[g]? = some (.cells #[.pointer (some ⟨hd.b, 0, none⟩), .slice Ah hs.length ch, .int .i64 tl.length, .int .i64 size] 90 (0, 0))) ∧ Aside0 (Kept w ((wr.setCell ⟨x.n, j, none⟩ (ptrV (nxt post j))).setCell ⟨y.n, j, none⟩ (ptrV (some x.b))).drew (Foot g (hd :: tl))) ∧ Aside0 (Kd.R (Kd.int .i64) 3 ((wr.setCell ⟨x.n, j, none⟩ (ptrV (nxt post j))).setCell ⟨y.n, j, none⟩ (ptrV (some x.b))).drew w0.heap.size (fun _ => True) (.slice Ah hs.length ch) hs) ∧ Aside0 (Below w0.heap.size w0 ((wr.setCell ⟨x.n, j, none⟩ (ptrV (nxt post j))).setCell ⟨y.n, j, none⟩ (ptrV (some x.b))).drew) ∧ Aside0 (((wr.setCell ⟨x.n, j, none⟩ (ptrV (nxt post j))).setCell ⟨y.n, j, none⟩ (ptrV (some x.b))).drew.heap[gp]? = some (.cells #[.string e.f0, .int .i64 e.f1, .int .i64 e.f2, .string e.f3, .string e.f4] 30 (0, 0))) ∧ Aside0 (((wr.setCell ⟨x.n, j, none⟩ (ptrV (nxt post j))).setCell ⟨y.n, j, none⟩ (ptrV (some x.b))).drew.heap[gw]? = some (.cells (rowV W 8) 85 (0, 0))) := by
  have hmx : x ∈ pre ++ x :: post := by simp
  have hNx := hN x hmx
  have hNy := hN y hmem
  have hNy1 := NdB.set (j := j) (v := nxt post j) hNy hNx (Apart.two hap hmx hmem)
  refine ⟨j + 1, _, by rw [show ((j + 1 : Nat) : Int) = (j : Int) + 1 from rfl], by omega, ⟨fun z hz => NdB.set (NdB.set (hN z hz) hNx (Apart.two hap hmx hz)) hNy1 (Apart.two hap hmem hz)⟩, ⟨hlk⟩, ⟨blk_far (blk_far hblk (blk_ne hblk hNx.2 (by decide)) _) (blk_ne hblk hNy.2 (by decide)) _⟩, ⟨(hkp.setCell (.inr h2) _).setCell (.inl (.inr ⟨y, hpm, rfl⟩)) _⟩, ⟨Kd.R_drew (Kd.R_set (Kd.R_set hhg hNx.2 (by decide) j _) hNy1.2 (by decide) j _)⟩, ⟨below_drew1 (below_set (below_set hbb h3) h1)⟩, ⟨blk_far (blk_far hbx (blk_ne hbx hNx.2 (by decide)) _) (blk_ne hbx hNy.2 (by decide)) _⟩, ⟨blk_far (blk_far hw (by show gw ≠ x.n; omega) _) (by show gw ≠ y.n; omega) _⟩⟩
theorem put_end (w0 w wr wc : World) (g : Nat) (hd : Nd S30) (tl pre post : List (Nd S30)) (G G1 : Nat → Nat → Option Nat) (x : Nd S30) {Ah : Option Addr} {ch : Nat} {hs : List Int} {size s2 : Int} {e : S30} (hL : Lst w g hd tl G (.slice Ah hs.length ch) size) (hwd : wr.setCell ⟨g, 2, none⟩ (.int .i64 ((tl.length + 1 : Nat) : Int)) = wc) (hpre : pre = hd :: loN tl e) (hpost : post = hiN tl e) (hx : x.e = e) (hx1 : 1 ≤ x.h) (hx8 : x.h ≤ 8) (hap : Apart (pre ++ x :: post)) (hN : ∀ z ∈ pre ++ x :: post, NdB wr G1 z) (hlk : LkJ pre x post G1 x.h)
    (hblk : wr.heap[g]? = some (.cells #[.pointer (some ⟨hd.b, 0, none⟩), .slice Ah hs.length ch, .int .i64 tl.length, .int .i64 size] 90 (0, 0))) (hkp : Kept w wr (Foot g (hd :: tl))) (hhg : Kd.R (Kd.int .i64) 3 wr w0.heap.size (fun _ => True) (.slice Ah hs.length ch) hs) (hbb : Below w0.heap.size w0 wr) (hg : w0.heap.size ≤ g) (hfn : ∀ y ∈ hd :: tl, w0.heap.size ≤ y.n) (hgr : w.heap.size ≤ x.n) (hB : Below w0.heap.size w0 w) (hh : has (tl.map Nd.e) e.f0 e.f1 = false) :
    ∃ tl', tl'.map Nd.e = putL (tl.map Nd.e) e ∧ LO w0 (wc.setCell ⟨g, 3, none⟩ (.int .i64 s2)).drew g hd tl' hs s2 ∧ Kept w (wc.setCell ⟨g, 3, none⟩ (.int .i64 s2)).drew (Foot g (hd :: tl)) ∧ ∀ y ∈ tl', y ∈ tl ∨ w.heap.size ≤ y.n := by
  have htl : hd :: (loN tl e ++ x :: hiN tl e) = pre ++ x :: post := by rw [hpre, hpost, List.cons_append]
  have hb1 : wc.heap[g]? = some (.cells #[.pointer (some ⟨hd.b, 0, none⟩), .slice Ah hs.length ch, .int .i64 ((tl.length + 1 : Nat) : Int), .int .i64 size] 90 (0, 0)) := by rw [← hwd]; exact blk_set hblk 2 _
  have hb2 : (wc.setCell ⟨g, 3, none⟩ (.int .i64 s2)).heap[g]? = some (.cells #[.pointer (some ⟨hd.b, 0, none⟩), .slice Ah hs.length ch, .int .i64 ((tl.length + 1 : Nat) : Int), .int .i64 s2] 90 (0, 0)) := blk_set hb1 3 _
  have hNf : ∀ z ∈ pre ++ x :: post, NdB (wc.setCell ⟨g, 3, none⟩ (.int .i64 s2)).drew G1 z := fun z hz => by
    have h := hN z hz
    rw [← hwd]
    exact ⟨blk_drew (blk_far (blk_far h.1 (blk_ne h.1 hblk (by decide)) _) (blk_ne h.1 hblk (by decide)) _), blk_drew (blk_far (blk_far h.2 (blk_ne h.2 hblk (by decide)) _) (blk_ne h.2 hblk (by decide)) _)⟩
  have hlen : (loN tl e ++ x :: hiN tl e).length = tl.length + 1 := by
    have := congrArg List.length (lo_hiN tl e)
    rw [List.length_append] at this ⊢
    rw [List.length_cons]; omega
  have hsub : ∀ y ∈ loN tl e ++ x :: hiN tl e, y ∈ tl ∨ y = x := fun y hy => by
    rw [← lo_hiN tl e]
    rcases List.mem_append.1 hy with hy | hy
    · exact .inl (List.mem_append_left _ hy)
    · rcases List.mem_cons.1 hy with hy | hy
      · exact .inr hy
      · exact .inl (List.mem_append_right _ hy)
  refine ⟨loN tl e ++ x :: hiN tl e, ?_, ⟨G1, _, ⟨blk_drew (by rw [hlen]; exact hb2), hL.h8, by rw [htl]; exact hNf, by rw [htl]; exact hlk.done, ?_, by rw [htl]; exact hap⟩, below_drew1 (below_set (by rw [← hwd]; exact below_set hbb hg) hg), hg, ?_, ?_⟩, Kept.drew ((by rw [← hwd]; exact hkp.setCell (.inl (.inl rfl)) _ : Kept w wc (Foot g (hd :: tl))).setCell (.inl (.inl rfl)) _), ?_⟩
  · unfold putL
    rw [if_neg (by rw [hh]; decide), List.map_append, List.map_cons, loN_map, hiN_map, hx]; rfl
  · intro y hy
    rcases List.mem_cons.1 hy with rfl | hy
    · exact hL.tall _ List.mem_cons_self
    · rcases hsub y hy with h | rfl
      · exact hL.tall y (List.mem_cons_of_mem _ h)
      · exact ⟨hx1, hx8⟩
  · intro y hy
    rcases List.mem_cons.1 hy with rfl | hy
    · exact hfn _ List.mem_cons_self
    · rcases hsub y hy with h | rfl
      · exact hfn y (List.mem_cons_of_mem _ h)
      · exact Nat.le_trans hB.size hgr
  · have h1 : Kd.R (Kd.int .i64) 3 wc w0.heap.size (fun _ => True) (.slice Ah hs.length ch) hs := by rw [← hwd]; exact Kd.R_set hhg hblk (by decide) 2 _
    exact Kd.R_drew (Kd.R_set h1 hb1 (by decide) 3 _)
  · intro y hy
    rcases hsub y hy with h | rfl
    · exact .inl h
    · exact .inr hgr
end Go.Proofs.Ytoglanahjlfihaa.MLst
