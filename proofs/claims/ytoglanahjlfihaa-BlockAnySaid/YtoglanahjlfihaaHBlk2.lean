import Derived.Test.YtoglanahjlfihaaHBlk1
namespace Go.Proofs.Ytoglanahjlfihaa.MBlk
open Go.RowKit Go.Proofs.YtoglanahjlfihaaW.PrintWords Go.Proofs.YtoglanahjlfihaaW.PrintLast Go.Proofs.YtoglanahjlfihaaW.PrintMore
set_option linter.unusedVariables false
set_option linter.unusedSimpArgs false
def putAll (k : Nat) : List Int → List Int → Option (List Int)
  | [], b => some b
  | n :: t, b => (varint_Put.f k (IntKind.u64.wrap n)).bind fun p => if b.length + p.length < 140737488355328 then putAll k t (b ++ p) else none
theorem map_get (l : List Int) (j : Nat) (h : j < l.length) : (l.map (Value.int .i64)).toArray[j]? = some (Value.int .i64 (l.getD j 0)) := by
  rw [List.getElem?_toArray, List.getElem?_map, List.getD_eq_getElem?_getD, List.getElem?_eq_getElem h]; rfl
theorem drop_getD_ (l : List Int) (j : Nat) (h : j < l.length) : l.drop j = l.getD j 0 :: l.drop (j + 1) := by
  rw [List.drop_eq_getElem_cons h, List.getD_eq_getElem?_getD, List.getElem?_eq_getElem h]; rfl
theorem alloc_new_ (W : World) (o : Obj) (g : Nat) (h : g = W.heap.size) : (W.alloc o).heap[g]? = some o := by subst h; exact Array.getElem?_push_size
set_option maxHeartbeats 8000000 in
set_option maxRecDepth 100000 in
theorem block_Add_yesB.calls (k : Nat) (w0 w : World) (g : Nat) (rows n : Int) (last key value : ByteArray) (b p b1 : List Int) (hI : BldI w0 w g rows last b p) (h1 : 0 < rows) (h2 : Op.bytesLess last.toList key.toList = true)
    (h3 : rows.tmod 4 = 0 → False) (hs : block_shared.f k last key = some n) (hn0 : 0 ≤ n) (hn1 : n ≤ key.size) (hb1 : putAll k [n, (key.size : Int) - n, value.size] b = some b1) (hr9 : rows < 4611686018427387904) (hks : key.size < 1000000) (hvs : value.size < 1000000) (hbl : b1.length < 100000000000) :
    Calls Try.prog 40 #[.pointer (some ⟨g, 0, none⟩), .string key, .string value] w fun e w' => e = .returned (.bool true) ∧ BldI w0 w' g (rows + 1) key (b1 ++ bytesOf (key.extract n.toNat key.size) ++ bytesOf value) p ∧ Oth w w' g := by
  obtain ⟨hge, hB, vb, vp, hC, hO, hP, hn⟩ := hI
  have h0 : w.cell? ⟨g, 0, none⟩ = some (.int .i64 rows) := (blk_cell hC 0).trans rfl
  have hl : w.cell? ⟨g, 1, none⟩ = some (.string last) := (blk_cell hC 1).trans rfl
  have HI : Aside0 (BldI w0 w g rows last b p) := ⟨⟨hge, hB, vb, vp, hC, hO, hP, hn⟩⟩
  clear hB hC hO hP hn
  have hu63 := Try.underlying63
  have hr : (0 < rows) = True := eq_true h1
  have hrm : (rows.tmod 4 == 0) = false := beq_eq_false_iff_ne.mpr h3
  have hle : binOp .leq 9 (.string key) (.string last) = pure (.bool false) := by rw [binOp_string_leq_, h2]; rfl
  have hwk : IntKind.i64.wrap ((key.size : Int) - n) = (key.size : Int) - n := (i64_w _).trans (by unfold wrap64; omega)
  have HS := Aside0.mk hs
  have HA := Aside0.mk hb1
  clear h2 h1 h3 hs hb1
  go_enter Try.func40, Try.ntmps40
  go_wp2_with (fail)
  refine (block_shared.calls k last key n _ HS.out).mono ?_
  rintro e w' ⟨rfl, hd⟩
  obtain ⟨m, rfl⟩ := hd.out
  clear hd
  obtain ⟨w1, hw1⟩ : ∃ w1, Aside0 (w1 = w.drewN m) := ⟨_, ⟨rfl⟩⟩
  have HI1 : Aside0 (BldI w0 w1 g rows last b p) := ⟨by rw [hw1.out]; exact HI.out.below (pw_below_drewN (Below.refl _ _) m)⟩
  have HO1 : Aside0 (Oth w w1 g) := ⟨by rw [hw1.out]; exact Oth.below (pw_below_drewN (Below.refl _ _) m)⟩
  have h01 : w1.cell? ⟨g, 0, none⟩ = some (.int .i64 rows) := by rw [hw1.out]; exact h0
  rw [← hw1.out]
  clear hw1 HI h0 hl
  go_wp2_with (fail)
  obtain ⟨gL, hgL⟩ : ∃ gL, Aside0 (gL = w1.heap.size) := ⟨_, ⟨rfl⟩⟩
  have hLg : gL ≠ g := by
    obtain ⟨_, _, _, _, hc_, _⟩ := HI1.out
    have := blk_lt hc_
    have := hgL.out
    omega
  have HI2 : Aside0 (BldI w0 (w1.alloc (.cells #[.int .i64 n, .int .i64 ((key.size : Int) - n), .int .i64 value.size] 3)) g rows last b p) := ⟨HI1.out.below (below_alloc (Below.refl _ _) _)⟩
  have HO2 : Aside0 (Oth w (w1.alloc (.cells #[.int .i64 n, .int .i64 ((key.size : Int) - n), .int .i64 value.size] 3)) g) := ⟨HO1.out.trans (Oth.below (below_alloc (Below.refl _ _) _))⟩
  have HL : Aside0 ((w1.alloc (.cells #[.int .i64 n, .int .i64 ((key.size : Int) - n), .int .i64 value.size] 3)).heap[gL]? = some (.cells (([n, (key.size : Int) - n, (value.size : Int)] : List Int).map (Value.int .i64)).toArray 3 (0, 0))) := ⟨alloc_new_ _ _ _ hgL.out⟩
  rw [← hgL.out]
  clear h01
  go_loopg [63] 3 (fun kx s63 wr => ∃ (j : Nat) (bj : List Int), s63 = .int .i64 j ∧ j + kx = 3 ∧ Aside0 (putAll k (([n, (key.size : Int) - n, (value.size : Int)] : List Int).drop j) bj = some b1) ∧ Aside0 (BldI w0 wr g rows last bj p) ∧ Aside0 (wr.heap[gL]? = some (.cells (([n, (key.size : Int) - n, (value.size : Int)] : List Int).map (Value.int .i64)).toArray 3 (0, 0))) ∧ Aside0 (Oth w wr g))
  case atStart => exact ⟨0, b, rfl, rfl, HA, HI2, HL, HO2⟩
  case round =>
    clear HI1 HO1 HI2 HO2 HL hwk HA hgL
    obtain ⟨j, bj, rfl, hk, HP, HI, HL, HO⟩ := hrel
    cases gk with
    | zero =>
      have hj : ((j : Int) < 3) = False := eq_false (by omega)
      have hbe : bj = b1 := by
        have h_ := HP.out
        rw [List.drop_eq_nil_of_le (by simp only [List.length_cons, List.length_nil]; omega)] at h_
        exact Option.some.inj h_
      subst hbe
      clear HP HL
      obtain ⟨hge, hB, vb, vp, hC, hO, hP, hn⟩ := HI.out
      have HB := Aside0.mk hB
      have HOb := Aside0.mk hO
      have HOp := Aside0.mk hP
      have HN := Aside0.mk hn
      have HC := Aside0.mk hC
      have hc2 : wr.cell? ⟨g, 2, none⟩ = some vb := (blk_cell hC 2).trans rfl
      clear HI hB hO hP hn hC
      go_wp2_with (fail)
      go_region_law (first
        | (refine R_append_str_step (w0 := w0) w0.heap.size (by rfl) (.tmp 83) (.tmp 86) 28 9 5 rfl Try.underlying28 Try.underlying9 info5 vb bj (key.extract n.toNat key.size) (fun k => k ≠ g) (by rfl) (by rfl) ?aO ?aF ?aB ?aS ?aL ?_; (case aO => first | exact HOb.out | exact Kd.R_drew HOb.out); (case aF => exact fun i hi => by have := blk_lt HC.out; have hi : wr.heap.size ≤ i := hi; omega); (case aB => first | exact HB.out | exact below_drew1 HB.out); (case aS => first | exact below_size HB.out | exact below_size (below_drew1 HB.out)); (case aL => rw [ByteArray.size_extract]; omega); intro v1 w1 ho1 hb1 hg1 hat1; have HO1 := Aside0.mk ho1; have HB1 := Aside0.mk hb1; have HG1 := Aside0.mk hg1; have HA1 := Aside0.mk hat1; have HC1 := Aside0.mk ((hg1.block g (blk_lt HC.out) (Kd.R_away HOb.out (fun _ h => h))).trans HC.out); clear ho1 hb1 hg1 hat1)
        | (refine R_append_str_step (w0 := w0) w0.heap.size (by rfl) (.tmp 87) (.tmp 88) 28 9 5 rfl Try.underlying28 Try.underlying9 info5 v1 (bj ++ bytesOf (key.extract n.toNat key.size)) value (fun k => k ≠ g) (by rfl) (by rfl) ?aO ?aF ?aB ?aS ?aL ?_; (case aO => exact HO1.out); (case aF => exact fun i hi => by have := blk_lt HC.out; have h_ : wr.heap.size ≤ w1.heap.size := HG1.out.size; omega); (case aB => exact HB1.out); (case aS => exact below_size HB1.out); (case aL => rw [List.length_append, bytesOf_length, ByteArray.size_extract]; omega); intro v2 w2 ho2 hb2 hg2 hat2; obtain ⟨A3, c3, e3⟩ := Kd.R_slice ho2; obtain ⟨nl, hnl⟩ : ∃ nl, Aside0 (nl = (bj ++ bytesOf (key.extract n.toNat key.size) ++ bytesOf value).length) := ⟨_, ⟨rfl⟩⟩; rw [← hnl.out] at e3; subst e3; have hc3 := (blk_cell ((hg2.block g (blk_lt HC1.out) (Kd.R_away HO1.out (fun _ h => h))).trans HC1.out) 2).trans rfl; have hf3 := blk_frozen ((hg2.block g (blk_lt HC1.out) (Kd.R_away HO1.out (fun _ h => h))).trans HC1.out) 2; have HO2 := Aside0.mk ho2; have HB2 := Aside0.mk hb2; have HG2 := Aside0.mk hg2; have HA2 := Aside0.mk hat2; clear ho2 hb2 hg2 hat2))
      all_goals
        have BI : Aside0 (BldI w0 (w2.setCell ⟨g, 2, none⟩ _) g rows last (bj ++ bytesOf (key.extract n.toNat key.size) ++ bytesOf value) p) := ⟨BldI.set_b hge HB2.out HC1.out HO1.out (R_beside (Kd.R_drew HOp.out) HG1.out (ne_sym HN.out)) (ne_after (w := wr.drew) (Kd.R_lt (Kd.R_drew HOp.out)) HA1.out HN.out) HO2.out HG2.out HA2.out⟩
        have OO : Aside0 (Oth w (w2.setCell ⟨g, 2, none⟩ (.slice A3 nl c3)) g) := ⟨((HO.out.trans (Oth.below (below_drew (Below.refl _ _)))).trans (Oth.grown (Kd.R_drew HOb.out) HG1.out)).trans ((Oth.grown HO1.out HG2.out).trans (Oth.set 2 _))⟩
        obtain ⟨w3, hw3⟩ : ∃ w3, Aside0 (w3 = w2.setCell ⟨g, 2, none⟩ (.slice A3 nl c3)) := ⟨_, ⟨rfl⟩⟩
        rw [← hw3.out] at BI OO ⊢
        clear hw3 hc3 hf3 HO2 HB2 HG2 HA2 HC1 HA1 HG1 HB1 HO1 hc2 HC HN HOp HOb HB HO
        obtain ⟨_, _, vb3, vp3, hC3, _⟩ := BI.out
        have h30 : w3.cell? ⟨g, 0, none⟩ = some (.int .i64 rows) := (blk_cell hC3 0).trans rfl
        have hf30 : w3.frozen? ⟨g, 0, none⟩ = false := blk_frozen hC3 0
        have hf31 : (w3.setCell ⟨g, 0, none⟩ (.int .i64 (rows + 1))).frozen? ⟨g, 1, none⟩ = false := blk_frozen (blk_set hC3 0 _) 1
        have hc31 : (w3.setCell ⟨g, 0, none⟩ (.int .i64 (rows + 1))).cell? ⟨g, 1, none⟩ = some (.string last) := (blk_cell (blk_set hC3 0 _) 1).trans rfl
        have hwr : IntKind.i64.wrap (rows + 1) = rows + 1 := (i64_w _).trans (by have hr0 := of_eq_true hr; unfold wrap64; omega)
        clear hC3
        go_wp2_with (fail)
        go_ret
        exact ⟨rfl, (BI.out.set_0 _).set_1 _, OO.out.trans ((Oth.set 0 _).trans (Oth.set 1 _))⟩
    | succ kk =>
      have hj : ((j : Int) < 3) = True := eq_true (by omega)
      have hj0 : ((0 : Int) ≤ (j : Int)) = True := eq_true (by omega)
      have hj1 : (j < 3) = True := eq_true (by omega)
      have hjl : j < ([n, (key.size : Int) - n, (value.size : Int)] : List Int).length := by simp only [List.length_cons, List.length_nil]; omega
      have hdj := drop_getD_ ([n, (key.size : Int) - n, (value.size : Int)] : List Int) j hjl
      have hcj := (blk_cell HL.out j).trans (map_get ([n, (key.size : Int) - n, (value.size : Int)] : List Int) j hjl)
      have hp_ := HP.out
      rw [hdj] at hp_
      clear HP hdj
      generalize ([n, (key.size : Int) - n, (value.size : Int)] : List Int).getD j 0 = nj at hp_ hcj
      simp only [putAll] at hp_
      obtain ⟨pj, hp1, hp2⟩ := Option.bind_eq_some_iff.mp hp_
      by_cases hpl : bj.length + pj.length < 140737488355328
      · rw [if_pos hpl] at hp2
        have HP := Aside0.mk hp2
        have HQ := Aside0.mk hp1
        clear hp_ hp1 hp2
        obtain ⟨hge, hB, vb, vp, hC, hO, hP, hn⟩ := HI.out
        have HB := Aside0.mk hB
        have HOb := Aside0.mk hO
        have HOp := Aside0.mk hP
        have HN := Aside0.mk hn
        have HC := Aside0.mk hC
        have hc2 : wr.cell? ⟨g, 2, none⟩ = some vb := (blk_cell hC 2).trans rfl
        clear HI hB hO hP hn hC
        go_wp2_with (fail)
        go_region_law (first
          | (go_simp; go_at_call 56; (with_reducible refine (varint_Put.calls k (IntKind.u64.wrap nj) pj _ HQ.out).mono ?_); rintro e w' ⟨v0, rfl, ho, hb⟩; obtain ⟨A1, c1, e1⟩ := Kd.R_slice ho; subst e1; have HB2 := Aside0.mk (below_step (below_drew1 HB.out) hb); have HOb2 := Aside0.mk (Kd.R_below (Kd.R_drew HOb.out) hb); have HOp2 := Aside0.mk (Kd.R_below (Kd.R_drew HOp.out) hb); have HP2 := Aside0.mk (Kd.R_reads' ho).2.2; have HC2 := Aside0.mk ((hb.block g (blk_lt HC.out)).trans HC.out); have HS2 := Aside0.mk hb; have hc22 := (blk_cell HC2.out 2).trans rfl; have hf22 := blk_frozen HC2.out 2; clear ho hb)
          | (refine Kd.R_append_rows_step (Kd.int .u8) (w0 := w0) w0.heap.size (by rfl) (.tmp 71) (.tmp 74) 28 5 (.int .u8 0) 1 rfl Try.underlying28 info5 rfl (by decide) (by omega) vb bj pj _ _ _ (fun k => k ≠ g) (fun _ => False) (by rfl) (by rfl) ?aO ?aR (fun _ _ h => h) (fun _ h => h.elim) ?aF ?aB ?aS ?aL ?_; (case aO => exact HOb2.out); (case aR => exact HP2.out); (case aF => exact fun i hi => by have := blk_lt HC2.out; omega); (case aB => exact HB2.out); (case aS => exact below_size HB2.out); (case aL => omega); intro v1 w1 ho1 hb1 hg1 hat; obtain ⟨A3, c3, e3⟩ := Kd.R_slice ho1; obtain ⟨nl, hnl⟩ : ∃ nl, Aside0 (nl = (bj ++ pj).length) := ⟨_, ⟨rfl⟩⟩; rw [← hnl.out] at e3; subst e3; have HO3 := Aside0.mk ho1; have HB3 := Aside0.mk hb1; have HG3 := Aside0.mk hg1; have HA3 := Aside0.mk hat; have HC3 := Aside0.mk ((hg1.block g (blk_lt HC2.out) (Kd.R_away HOb2.out (fun _ h => h))).trans HC2.out); have hc3 := (blk_cell HC3.out 2).trans rfl; have hf3 := blk_frozen HC3.out 2; clear ho1 hb1 hg1 hat))
        all_goals
          have BI : Aside0 (BldI w0 (w1.setCell ⟨g, 2, none⟩ (.slice A3 nl c3)) g rows last (bj ++ pj) p) := ⟨BldI.set_b hge HB3.out HC2.out HOb2.out HOp2.out HN.out HO3.out HG3.out HA3.out⟩
          have OO : Aside0 (Oth wr (w1.setCell ⟨g, 2, none⟩ (.slice A3 nl c3)) g) := ⟨((Oth.below (below_drew (Below.refl _ _))).trans (Oth.below HS2.out)).trans ((Oth.grown HOb2.out HG3.out).trans (Oth.set 2 _))⟩
          have HL3 : Aside0 ((w1.setCell ⟨g, 2, none⟩ (.slice A3 nl c3)).heap[gL]? = some (.cells (([n, (key.size : Int) - n, (value.size : Int)] : List Int).map (Value.int .i64)).toArray 3 (0, 0))) := ⟨OO.out.2 _ _ 3 hLg (by decide) HL.out⟩
          have OO3 := Aside0.mk (HO.out.trans OO.out)
          obtain ⟨w3, hw3⟩ : ∃ w3, Aside0 (w3 = w1.setCell ⟨g, 2, none⟩ (.slice A3 nl c3)) := ⟨_, ⟨rfl⟩⟩
          rw [← hw3.out] at BI OO3 HL3 ⊢
          clear hw3 hc3 hf3 HC3 HA3 HG3 HB3 HO3 hc22 hf22 HS2 HC2 HP2 HOp2 HOb2 HB2 hc2 HC HN HOp HOb HB HO OO HL hcj
          have hwj : IntKind.i64.wrap ((j : Int) + 1) = ((j + 1 : Nat) : Int) := (i64_w _).trans (by unfold wrap64; omega)
          go_wp2_with (fail)
          go_roundg kk
          case measure => omega
          case rel => exact ⟨j + 1, bj ++ pj, rfl, by omega, HP, BI, HL3, OO3⟩
      · rw [if_neg hpl] at hp2; cases hp2
end Go.Proofs.Ytoglanahjlfihaa.MBlk
