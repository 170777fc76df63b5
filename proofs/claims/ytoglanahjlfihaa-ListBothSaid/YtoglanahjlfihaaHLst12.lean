import Derived.Test.YtoglanahjlfihaaHLst11
namespace Go.Proofs.Ytoglanahjlfihaa.MLst
open Go.RowKit Go.Proofs.Ytoglanahjlfihaa.QLst Go.Proofs.YtoglanahjlfihaaW.PrintWords Go.Proofs.YtoglanahjlfihaaW.PrintLast Go.Proofs.YtoglanahjlfihaaW.PrintMore
set_option linter.unusedVariables false
set_option linter.unusedSimpArgs false
theorem C_lit {w : World} {g : Nat} {xs : List Int} (h : w.heap[g]? = some (.cells (xs.map (Value.int .i64)).toArray 3 (0, 0))) (hn : xs.length ≤ 1000) : Kd.C (Kd.int .i64) w (some ⟨g, 0, none⟩) xs.length xs := by
  refine ⟨rfl, by omega, fun _ => ⟨⟨g, 0, none⟩, rfl, fun j p hj => ⟨[.int .i64 p], rfl, rfl, fun i u hu => ?_⟩⟩⟩
  have hi : i = 0 := by
    cases i with
    | zero => rfl
    | succ i => simp at hu
  subst hi
  have hu2 : u = .int .i64 p := by simpa using hu.symm
  subst hu2
  have hadd : (⟨g, 0, none⟩ : Addr).add (j * (Kd.int .i64).sz + 0) = ⟨g, j, none⟩ := by
    show (⟨g, 0, none⟩ : Addr).add (j * 1 + 0) = _
    unfold Addr.add
    by_cases hj0 : j = 0
    · subst hj0; rfl
    · simp [hj0]
  rw [hadd, blk_cell h j, List.getElem?_toArray, List.getElem?_map, hj]; rfl
theorem LO.it_kept {w0 w w' : World} {g i : Nat} {hd : Nd S30} {tl : List (Nd S30)} {hs : List Int} {size : Int} {at_ : Option Nat} (h : LO w0 w g hd tl hs size) (hI : It w i g at_) (hk : Kept w w' (fun k => k = i)) (hB : Below w0.heap.size w0 w') : LO w0 w' g hd tl hs size := by
  obtain ⟨G, vh, hL, _, _, _, _⟩ := id h
  refine h.kept hk hB (fun k hk2 => ?_)
  subst hk2
  exact ⟨fun e => (blk_ne hL.blk hI (by decide)) e.symm, fun y hy e => (blk_ne (hL.nodes y hy).2 hI (by decide)) e.symm, _, _, hI, by decide, by decide⟩
theorem LO.node {w0 w : World} {g : Nat} {hd : Nd S30} {tl : List (Nd S30)} {hs : List Int} {size : Int} (h : LO w0 w g hd tl hs size) : ∃ G, ∀ y ∈ tl, NdB w G y := by
  obtain ⟨G, vh, hL, _⟩ := h
  exact ⟨G, fun y hy => hL.nodes y (List.mem_cons_of_mem _ hy)⟩
theorem field30_0 (a : ByteArray) (b c : Int) (d e : ByteArray) (W : World) : (Instr.field 30 (.agg #[.string a, .int .i64 b, .int .i64 c, .string d, .string e]) 0).run Try.prog W = .ok (.string a) W := by kernel_rfl
theorem field30_1 (a : ByteArray) (b c : Int) (d e : ByteArray) (W : World) : (Instr.field 30 (.agg #[.string a, .int .i64 b, .int .i64 c, .string d, .string e]) 1).run Try.prog W = .ok (.int .i64 b) W := by kernel_rfl
def eA : S30 := ⟨⟨#[97]⟩, 2, 1, ⟨#[]⟩, ⟨#[118]⟩⟩
theorem get_eA : getE [eA] ⟨#[97]⟩ 5 = some eA := by
  unfold getE fromE hi
  rw [List.dropWhile_cons, show ltE eA (qE ⟨#[97]⟩ 5) = false from by
    unfold ltE
    rw [if_pos (show eA.f0.toList = (qE ⟨#[97]⟩ 5).f0.toList from rfl), if_neg (show ¬ eA.f1 = (qE ⟨#[97]⟩ 5).f1 from (by decide : ¬ (2 : Int) = 5))]
    exact decide_eq_false (show ¬ (2 : Int) > 5 by decide)]
  simp only [Bool.false_eq_true, if_false, List.head?_cons]
  rw [if_pos (show eA.f0 = ⟨#[97]⟩ from rfl)]
set_option maxHeartbeats 8000000 in
set_option maxRecDepth 100000 in
theorem incipitlaw14_begun.calls (w : World) : Calls Try.prog 15 #[] w fun e w' => e = .returned (.bool true) ∧ Below w.heap.size w w' := by
  go_enter Try.func15, Try.ntmps15
  go_wp2_with (fail)
  have HB1 : Aside0 (Below w.heap.size w (w.alloc (Obj.cells #[.int .i64 3] 3))) := ⟨below_alloc (Below.refl _ _) _⟩
  have HC1 : Aside0 (Kd.C (Kd.int .i64) (w.alloc (Obj.cells #[.int .i64 3] 3)) (some ⟨w.heap.size, 0, none⟩) [(3 : Int)].length [3]) := ⟨C_lit (xs := [3]) (blk_new w _) (by decide)⟩
  refine (list_New.calls w (w.alloc (Obj.cells #[.int .i64 3] 3)) (some ⟨w.heap.size, 0, none⟩) 1 [3] HB1.out HC1.out (by decide) (by decide)).mono ?_
  rintro e w2 ⟨g, hd, rfl, hO, hb, hg, hn⟩
  have HO2 := Aside0.mk hO
  have HB2 := Aside0.mk (below_step HB1.out hb)
  clear hO hb hg hn
  go_wp2_with (fail)
  refine (list_Put.calls w w2 g hd [] [3] 0 eA HO2.out (by exact List.Pairwise.nil) (by intro x hx; cases hx) (by decide) (by decide) (by decide) (by decide) (by decide)).mono ?_
  rintro e w3 ⟨tl, rfl, htl, hO, hk, _⟩
  have htl2 : tl.map Nd.e = [eA] := htl
  obtain ⟨y, rfl, hy⟩ : ∃ y, tl = [y] ∧ y.e = eA := List.map_eq_singleton_iff.1 htl2
  have HO3 : Aside0 (LO w w3 g hd [y] [3] 34) := ⟨hO⟩
  have HY := Aside0.mk hy
  clear htl htl2 hO hk hy
  rw [show (!has (List.map Nd.e ([] : List (Nd S30))) eA.f0 eA.f1) = true from rfl]
  go_wp2_with (fail)
  refine (list_Get.calls w w3 g hd [y] [3] 34 ⟨#[97]⟩ 5 HO3.out (by rw [List.map_singleton]; exact List.pairwise_singleton _ _)).mono ?_
  rintro e w4 ⟨rfl, hb⟩
  rw [List.map_singleton, HY.out, get_eA]
  have HO4 := Aside0.mk (HO3.out.below hb)
  clear hb
  rw [show resG (some eA) = .tuple #[.agg #[.string ⟨#[97]⟩, .int .i64 2, .int .i64 1, .string ⟨#[]⟩, .string ⟨#[118]⟩], .bool true] from rfl]
  go_wp2_with (fail)
  have HO5 := Aside0.mk (HO4.out.below (below_alloc (Below.refl _ _) (Obj.cells #[.string ⟨#[97]⟩, .int .i64 2, .int .i64 1, .string ⟨#[]⟩, .string ⟨#[118]⟩] 30)))
  have hbx := blk_new w4 (Obj.cells #[.string ⟨#[97]⟩, .int .i64 2, .int .i64 1, .string ⟨#[]⟩, .string ⟨#[118]⟩] 30)
  generalize w4.heap.size = gp at *
  generalize w4.alloc (Obj.cells #[.string ⟨#[97]⟩, .int .i64 2, .int .i64 1, .string ⟨#[]⟩, .string ⟨#[118]⟩] 30) = w5 at *
  refine (list_Iter.calls w5 g).mono ?_
  rintro e w6 ⟨i, rfl, hi, hI, hb⟩
  have HO6 := Aside0.mk (HO5.out.below hb)
  have HBX := Aside0.mk (blk_below hbx hb)
  have HI6 := Aside0.mk hI
  have hB6 : Below w.heap.size w w6 := by obtain ⟨_, _, _, h, _⟩ := HO6.out; exact h
  have hw5 : w.heap.size ≤ w5.heap.size := by obtain ⟨_, _, _, h, _⟩ := HO5.out; exact h.size
  have hwi : w.heap.size ≤ i := Nat.le_trans hw5 hi
  have HB6 := Aside0.mk hB6
  clear hb hbx hI hi hB6 hw5 HO5 HO4 HO3 HO2 HB2 HC1 HB1
  go_wp2_with (fail)
  refine (iter_First.calls w w6 g i hd [y] [3] 34 none HO6.out HI6.out).mono ?_
  rintro e w7 ⟨rfl, hw7⟩
  have HI7 : Aside0 (It w7 i g (some y.b)) := ⟨by rw [hw7]; exact blk_set HI6.out 1 _⟩
  have HK7 : Aside0 (Kept w6 w7 (fun k => k = i)) := ⟨by rw [hw7]; exact Kept.setCell (S := fun k => k = i) (p := ⟨i, 1, none⟩) (Kept.refl w6 _) (.inl rfl) _⟩
  have HB7 : Aside0 (Below w.heap.size w w7) := ⟨by rw [hw7]; exact below_set HB6.out hwi⟩
  have HO7 := Aside0.mk (HO6.out.it_kept HI6.out HK7.out HB7.out)
  have hbx7 := blk_kept HBX.out HK7.out (fun h => (blk_ne HBX.out HI6.out (by decide)) h)
  have hc4 : w7.cell? ⟨gp, 4, none⟩ = some (.string ⟨#[118]⟩) := by rw [blk_cell hbx7 4]; rfl
  obtain ⟨G, hG⟩ := HO7.out.node
  have HN := Aside0.mk (hG y (by simp))
  clear hbx7 hw7 HO6 HI6 HK7 HB6 HBX hG
  go_wp2_with (fail)
  refine (list_Len.calls w w7 g hd [y] [3] 34 HO7.out).mono ?_
  rintro e w8 ⟨rfl, rfl⟩
  rw [List.length_singleton]
  go_wp2_with (fail)
  refine (list_Size.calls w w8 g hd [y] [3] 34 HO7.out).mono ?_
  rintro e w9 ⟨rfl, rfl⟩
  go_wp2_with (fail)
  refine (iter_OK.calls w9 g i (some y.b) HI7.out).mono ?_
  rintro e w10 ⟨rfl, rfl⟩
  go_wp2_with (fail)
  refine (iter_Entry.calls w10 g i y G HI7.out HN.out).mono ?_
  rintro e w11 ⟨rfl, hb⟩
  rw [HY.out]
  rw [show eA.f1 = 2 from rfl]
  have hfd := field30_1 eA.f0 2 eA.f2 eA.f3 eA.f4
  go_wp2_with (fail)
  go_ret
  exact ⟨rfl, below_step HB7.out hb⟩
end Go.Proofs.Ytoglanahjlfihaa.MLst
