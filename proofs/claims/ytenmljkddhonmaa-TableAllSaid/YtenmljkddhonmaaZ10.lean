import Derived.Test.YtenmljkddhonmaaZ9
import Derived.Lib.Bytealg
import Derived.Lib.Strings
import Derived.Test.YtenmljkddhonmaaZ2
import Derived.Test.YtenmljkddhonmaaZ5
import Derived.Test.YtenmljkddhonmaaZ7
import Derived.Test.YtenmljkddhonmaaZ8
import Derived.Test.YtenmljkddhonmaaZ3
import Derived.Test.YtenmljkddhonmaaZ4
import Derived.Deep.RegionHeldLaw
namespace Go.Proofs.Ytenmljkddhonmaa.MTbl
open Go.RowKit Go.Proofs.Ytenmljkddhonmaa.QTbl Go.Proofs.YtenmljkddhonmaaW.PrintWords Go.Proofs.YtenmljkddhonmaaW.PrintLast Go.Proofs.YtenmljkddhonmaaW.PrintMore
set_option linter.unusedVariables false
set_option linter.unusedSimpArgs false
set_option maxHeartbeats 4000000 in
set_option maxRecDepth 1000000 in
/-- The end of a block: its bytes behind the rows, its length behind the sizes, a new builder. -/
theorem end.calls (W0 w : World) (pb pr ps pc n g : Nat) (vr vs : Value) (st : St) (rows sizes : List Int) (cnt : Nat) (I : BuS W0 w pb pr ps pc n g vr vs st rows sizes cnt)
    (hbl : st.b.length < 3000000) (hpl : st.p.length < 1000000) (hrl : rows.length < 1000000000) (hsl : sizes.length < 1000000000) (hcl : cnt < 1000000) :
    Calls Try.prog 42 #[.pointer (some ⟨pb,0,none⟩),.pointer (some ⟨pr,0,none⟩),.pointer (some ⟨ps,0,none⟩),.pointer (some ⟨pc,0,none⟩)] w fun e w' => e = .returned (.tuple #[]) ∧ ∃ n' g' vr' vs',BuS W0 w' pb pr ps pc n' g' vr' vs' St0 (rows ++ st.out) (sizes ++ put st.out.length) (cnt + 1) := by
  have II := Aside0.mk I
  have cb : w.cell? ⟨pb, 0, none⟩ = some (.pointer (some ⟨g, 0, none⟩)) := (blk_cell I.b 0).trans rfl
  have n1 : ¬ pb = pr := blk_ne I.b I.r (by decide)
  have n2 : ¬ pb = ps := blk_ne I.b I.s (by decide)
  have n3 : ¬ pb = pc := blk_ne I.b I.c (by decide)
  have n4 : ¬ pc = pr := blk_ne I.c I.r (by decide)
  have n5 : ¬ pc = ps := blk_ne I.c I.s (by decide)
  have n6 : ¬ pr = ps := I.ne
  have n1' : ¬ pr = pb := fun h => n1 h.symm
  have n2' : ¬ ps = pb := fun h => n2 h.symm
  have n3' : ¬ pc = pb := fun h => n3 h.symm
  have n4' : ¬ pr = pc := fun h => n4 h.symm
  have n5' : ¬ ps = pc := fun h => n5 h.symm
  have n6' : ¬ ps = pr := fun h => n6 h.symm
  have hB0 : ∀ w1 : World, Below w.heap.size w w1 → Below W0.heap.size W0 w1.drew := fun w1 h => below_drew1 (I.base.trans (h.mono I.base.size))
  have HB0 := Aside0.mk hB0
  have hR0 : ∀ w1 : World, Below w.heap.size w w1 → Kd.R (Kd.int .u8) 5 w1.drew W0.heap.size (fun _ => True) vr rows := fun w1 h => Kd.R_drew (Kd.R_mono (Kd.R_below I.R h) (fun _ _ => trivial))
  have HR0 := Aside0.mk hR0
  have hS0 : ∀ w1 w2 : World,Below w.heap.size w w1 → w1.drew.grownBy w2 vr.ownBlock → Kd.R (Kd.int .u8) 5 w2 W0.heap.size (fun _ => True) vs sizes := fun w1 w2 h hg => Kd.R_mono (u8_step (Kd.R_below I.S h) (fun k hk => hg.block k (by have := Kd.R_lt I.S k hk;have := h.size;show k < w1.heap.size;omega) (fun e => I.ap k e.symm hk))) (fun _ _ => trivial)
  have HS0 := Aside0.mk hS0
  have hX : ∀ (p t : Nat) (cs : Array Value),w.heap[p]? = some (.cells cs t (0,0)) → t ≠ 5 → some p ≠ vr.ownBlock ∧ some p ≠ vs.ownBlock := fun p t cs hp ht => ⟨Kd.R_ne I.R hp (fun h => ht h.symm),Kd.R_ne I.S hp (fun h => ht h.symm)⟩
  have KR := Aside0.mk (And.intro I.r (hX pr 43 _ I.r (by decide)))
  have KS := Aside0.mk (And.intro I.s (hX ps 43 _ I.s (by decide)))
  have KB := Aside0.mk (And.intro I.b (hX pb 82 _ I.b (by decide)))
  have KC := Aside0.mk (And.intro I.c (hX pc 3 _ I.c (by decide)))
  have HRL := Aside0.mk hrl
  have HSL := Aside0.mk hsl
  have HCL := Aside0.mk hcl
  clear hB0 hR0 hS0 hX hrl hsl
  have HQ := Aside0.mk (bytesN.calls n w g st I.bld (by omega) (by omega))
  have hol : st.out.length < 5000000 := by rw [out_length]; unfold szB; omega
  have HOL := Aside0.mk hol
  obtain ⟨K, hK⟩ := Put_ev (n := st.out.length) (by omega)
  have HK := Aside0.mk (hK K (Nat.le_refl _))
  have hu43 := Try.underlying43
  have hwr : IntKind.u64.wrap (st.out.length : Int) = (st.out.length : Int) := u64_id (by omega) (by omega)
  clear I hK hol hbl hpl
  generalize st.out = out at *
  go_enter Try.func42, Try.ntmps42
  go_wp2_with (first
    | (go_at_call 43;refine HQ.out.mono ?_;rintro e w1 ⟨v,rfl,hO,hb1⟩;obtain ⟨Ax,cx,rfl⟩ := Kd.R_slice hO;have HX : Aside0 (Kd.C (Kd.int .u8) w1.drew Ax out.length out) := ⟨Kd.C_drew (Kd.R_reads' hO).2.2⟩;have HB1 := Aside0.mk hb1;have r1 := (hb1.block pr (blk_lt KR.out.1)).trans KR.out.1;have s1 := (hb1.block ps (blk_lt KS.out.1)).trans KS.out.1;have b1 := (hb1.block pb (blk_lt KB.out.1)).trans KB.out.1;have c1 := (hb1.block pc (blk_lt KC.out.1)).trans KC.out.1;have W1 := Aside0.mk (And.intro r1 (And.intro s1 (And.intro b1 c1)));have cr1 : w1.cell? ⟨pr,0,none⟩ = some vr := (blk_cell r1 0).trans rfl;have cs1 : w1.cell? ⟨ps,0,none⟩ = some vs := (blk_cell s1 0).trans rfl;clear hO hb1 r1 s1 b1 c1))
  go_region_law (first
    | (refine Kd.R_append_rows_step (Kd.int .u8) (w0 := W0) W0.heap.size (by rfl) (.tmp 7) (.tmp 8) 43 5 (.int .u8 0) 1 rfl Try.underlying43 info5 rfl (by decide) (by omega) vr rows out _ _ _ (fun _ => True) (fun _ => False) (by rfl) (by rfl) ?aO ?aR (fun _ _ h => h) (fun _ h => h.elim) ?aF ?aB ?aS ?aL ?_;(case aO => exact HR0.out _ HB1.out);(case aR => exact HX.out);(case aF => exact fun _ _ => trivial);(case aB => exact HB0.out _ HB1.out);(case aS => exact below_size (HB0.out _ HB1.out));(case aL => have := HRL.out;have := HOL.out;omega);intro v1 w2 ho1 hb2 hg1 hat1;obtain ⟨A3,c3,e3⟩ := Kd.R_slice ho1;obtain ⟨nl,hnl⟩ : ∃ nl,Aside0 (nl = (rows ++ out).length) := ⟨_,⟨rfl⟩⟩;rw [← hnl.out] at e3;subst e3;have HO1 := Aside0.mk ho1;have HB2 := Aside0.mk hb2;have HG1 := Aside0.mk hg1;have HA1 := Aside0.mk hat1;have r2 := (hg1.block pr (blk_lt W1.out.1) KR.out.2.1).trans W1.out.1;have s2 := (hg1.block ps (blk_lt W1.out.2.1) KS.out.2.1).trans W1.out.2.1;have b2 := (hg1.block pb (blk_lt W1.out.2.2.1) KB.out.2.1).trans W1.out.2.2.1;have c2 := (hg1.block pc (blk_lt W1.out.2.2.2) KC.out.2.1).trans W1.out.2.2.2;have W2 := Aside0.mk (And.intro r2 (And.intro s2 (And.intro b2 c2)));have cs2 : w2.cell? ⟨ps,0,none⟩ = some vs := (blk_cell s2 0).trans rfl;clear ho1 hb2 hg1 hat1 r2 s2 b2 c2)
    | (go_simp;go_at_call 44;(with_reducible refine (varint_Put.calls K (out.length : Int) (put out.length) _ HK.out).mono ?_);rintro e w3 ⟨v0,rfl,ho,hb3⟩;obtain ⟨Ap,cp,ep⟩ := Kd.R_slice ho;obtain ⟨np,hnp⟩ : ∃ np,Aside0 (np = (put out.length).length) := ⟨_,⟨rfl⟩⟩;rw [← hnp.out] at ep;subst ep;have HP3 : Aside0 (Kd.C (Kd.int .u8) w3 Ap np (put out.length)) := ⟨by rw [hnp.out];exact (Kd.R_reads' ho).2.2⟩;have HB3 := Aside0.mk hb3;have r3 := (hb3.block pr (blk_lt W2.out.1)).trans W2.out.1;have s3 := (hb3.block ps (blk_lt W2.out.2.1)).trans W2.out.2.1;have b3 := (hb3.block pb (blk_lt W2.out.2.2.1)).trans W2.out.2.2.1;have c3_ := (hb3.block pc (blk_lt W2.out.2.2.2)).trans W2.out.2.2.2;have W3 := Aside0.mk (And.intro r3 (And.intro s3 (And.intro b3 c3_)));have cs3 : w3.cell? ⟨ps,0,none⟩ = some vs := (blk_cell s3 0).trans rfl;clear ho hb3 r3 s3 b3 c3_)
    | (refine Kd.R_append_rows_step (Kd.int .u8) (w0 := W0) W0.heap.size (by rfl) (.tmp 10) (.tmp 14) 43 5 (.int .u8 0) 1 rfl Try.underlying43 info5 rfl (by decide) (by omega) vs sizes (put out.length) _ _ _ (fun _ => True) (fun _ => False) (by rfl) (by rfl) ?aO ?aR (fun _ _ h => h) (fun _ h => h.elim) ?aF ?aB ?aS ?aL ?_;(case aO => exact Kd.R_below (HS0.out _ _ HB1.out HG1.out) HB3.out);(case aR => exact HP3.out);(case aF => exact fun _ _ => trivial);(case aB => exact below_step HB2.out HB3.out);(case aS => exact below_size (below_step HB2.out HB3.out));(case aL => have := HSL.out;have := hnp.out;have := HOL.out;have := put_length10 (n := out.length) (by omega);omega);intro v2 w4 ho2 hb4 hg2 hat2;obtain ⟨A4,c4,e4⟩ := Kd.R_slice ho2;obtain ⟨ml,hml⟩ : ∃ ml,Aside0 (ml = (sizes ++ put out.length).length) := ⟨_,⟨rfl⟩⟩;rw [← hml.out] at e4;subst e4;have HO2 := Aside0.mk ho2;have HB4 := Aside0.mk hb4;have HG2 := Aside0.mk hg2;have HA2 := Aside0.mk hat2;have r4 := (hg2.block pr (blk_lt W3.out.1) KR.out.2.2).trans W3.out.1;have s4 := (hg2.block ps (blk_lt W3.out.2.1) KS.out.2.2).trans W3.out.2.1;have b4 := (hg2.block pb (blk_lt W3.out.2.2.1) KB.out.2.2).trans W3.out.2.2.1;have c4_ := (hg2.block pc (blk_lt W3.out.2.2.2) KC.out.2.2).trans W3.out.2.2.2;have W4 := Aside0.mk (And.intro r4 (And.intro s4 (And.intro b4 c4_)));clear ho2 hb4 hg2 hat2 r4 s4 b4 c4_)
    | (go_simp;go_at_call 41;refine (newN.calls w4).mono ?_;rintro e w5 ⟨g',rfl,hN,hb5⟩;have HN := Aside0.mk hN;have HB5 := Aside0.mk hb5;have r5 := (hb5.block pr (blk_lt W4.out.1)).trans W4.out.1;have s5 := (hb5.block ps (blk_lt W4.out.2.1)).trans W4.out.2.1;have b5 := (hb5.block pb (blk_lt W4.out.2.2.1)).trans W4.out.2.2.1;have c5 := (hb5.block pc (blk_lt W4.out.2.2.2)).trans W4.out.2.2.2;have cr5 : w5.cell? ⟨pr,0,none⟩ = some vr := (blk_cell r5 0).trans rfl;have cs5 : w5.cell? ⟨ps,0,none⟩ = some vs := (blk_cell s5 0).trans rfl;have cb5 : w5.cell? ⟨pb,0,none⟩ = some (.pointer (some ⟨g,0,none⟩)) := (blk_cell b5 0).trans rfl;have cc5 : w5.cell? ⟨pc,0,none⟩ = some (.int .i64 cnt) := (blk_cell c5 0).trans rfl;have fr5 := blk_frozen r5 0;have fs5 := blk_frozen s5 0;have fb5 := blk_frozen b5 0;have fc5 := blk_frozen c5 0;clear hN hb5 r5 s5 b5 c5))
  all_goals have hwc : wrap64 ((cnt : Int) + 1) = ((cnt + 1 : Nat) : Int) := by rw [wrap64_id (by omega) (by omega)]; omega
  all_goals go_wp2
  all_goals refine bodyPost_end (results_none rfl _ _ _) rfl ?_
  all_goals refine ⟨rfl, w4.heap.size, g', .slice A3 nl c3, .slice A4 ml c4, ?_⟩
  all_goals rw [show (cnt : Int) + 1 = ((cnt + 1 : Nat) : Int) by omega]
  all_goals exact BuS.next II.out HB1.out.drew HO1.out HG1.out HA1.out HB3.out HO2.out HG2.out HA2.out HB4.out HN.out HB5.out
end Go.Proofs.Ytenmljkddhonmaa.MTbl

namespace Go.Proofs.Ytenmljkddhonmaa.MTbl
open Go.RowKit Go.Proofs.Ytenmljkddhonmaa.QTbl Go.Proofs.YtenmljkddhonmaaW.PrintWords Go.Proofs.YtenmljkddhonmaaW.PrintLast Go.Proofs.YtenmljkddhonmaaW.PrintMore
set_option linter.unusedVariables false
set_option linter.unusedSimpArgs false
/-! PURE: what Build's loop keeps -/
theorem Text_ev {s : ByteArray} (h : s.size ≤ 1000000) : Ev (fun k => varint_Text.f k s) (put s.size ++ bytesOf s) := by
  unfold varint_Text.f
  rw [u64_id (by omega) (by omega)]
  have hp := put_length10 (n := s.size) (by omega)
  exact Ev.bind (Put_ev (by omega)) (Ev.ite_pos (by omega) (Ev.now _))
structure BInv (l : List S28) (i : Nat) (cs : List (List S28)) (cur : List S28) : Prop where
  cut : cutB [] l = cs ++ cutB cur (l.drop i)
  len : cur.length ≤ i
  okb : ∀ x ∈ cur, okB x
  cnt : cs.length ≤ i
  last : (stOf cur).last.size ≤ 71
  add : (stOf cur).rows = 0 ∨ ∀ y ∈ l.drop i, Op.bytesLess (stOf cur).last.toList (keyS y).toList = true
theorem BInv.start (l : List S28) : BInv l 0 [] [] := ⟨rfl, Nat.le_refl _, by simp, Nat.le_refl _, by decide, .inl rfl⟩
theorem drop_at {l : List S28} {i : Nat} (hi : i < l.length) : l.drop i = l[i] :: l.drop (i + 1) := List.drop_eq_getElem_cons hi
theorem BInv.addB {l : List S28} {i : Nat} {cs : List (List S28)} {cur : List S28} (h : BInv l i cs cur) (hi : i < l.length) : addB (stOf cur) (keyS l[i]) = true := by
  unfold MTbl.addB
  rcases h.add with h | h
  · rw [h]; rfl
  · rw [h l[i] (by rw [drop_at hi]; exact List.mem_cons_self ..), Bool.or_true]
theorem BInv.bounds {l : List S28} {i : Nat} {cs : List (List S28)} {cur : List S28} (h : BInv l i cs cur) (hi : i ≤ 1000) : (stOf cur).rows ≤ 1000 ∧ (stOf cur).b.length ≤ 2200000 ∧ (stOf cur).p.length ≤ 4000 := by
  obtain ⟨h1, h2, h3⟩ := addTs_bounds cur St0 h.okb
  have e1 : St0.b.length = 0 := rfl
  have e2 : St0.p.length = 0 := rfl
  have e3 : St0.rows = 0 := rfl
  have := h.len
  unfold stOf
  omega
theorem BInv.cut_ {l : List S28} {i : Nat} {cs : List (List S28)} {cur : List S28} (h : BInv l i cs cur) (hi : i < l.length) (hc : 200 ≤ szB (stOf (cur ++ [l[i]])) ∨ i + 1 = l.length) : BInv l (i + 1) (cs ++ [cur ++ [l[i]]]) [] := by
  refine ⟨?_, Nat.zero_le _, by simp, by rw [List.length_append, List.length_singleton]; have := h.cnt; omega, by decide, .inl rfl⟩
  rw [h.cut, drop_at hi]
  rw [show cutB cur (l[i] :: l.drop (i + 1)) = (cur ++ [l[i]]) :: cutB [] (l.drop (i + 1)) by
    show (if _ then _ else _) = _
    rw [if_pos]
    rcases hc with h | h
    · exact .inl h
    · exact .inr (List.drop_eq_nil_of_le (by omega))]
  simp
theorem BInv.go_ {l : List S28} {i : Nat} {cs : List (List S28)} {cur : List S28} (h : BInv l i cs cur) (hs : l.Pairwise srtR) (ho : ∀ x ∈ l,okB x) (hi : i < l.length) (h1 : ¬ 200 ≤ szB (stOf (cur ++ [l[i]]))) (h2 : i + 1 ≠ l.length) : BInv l (i + 1) cs (cur ++ [l[i]]) := by
  have hx := ho l[i] (List.getElem_mem hi)
  refine ⟨?_, by rw [List.length_append, List.length_singleton]; have := h.len; omega, ?_, by have := h.cnt; omega, ?_, .inr (fun y hy => ?_)⟩
  · rw [h.cut, drop_at hi]
    rw [show cutB cur (l[i] :: l.drop (i + 1)) = cutB (cur ++ [l[i]]) (l.drop (i + 1)) by
      show (if _ then _ else _) = _
      rw [if_neg]
      rintro (h | h)
      · exact h1 h
      · have := List.drop_eq_nil_iff.1 h; omega]
  · intro x hxm
    rcases List.mem_append.1 hxm with h3 | h3
    · exact h.okb x h3
    · rw [List.mem_singleton.1 h3]; exact hx
  · rw [stOf_snoc]; exact keyS_le hx.1
  · rw [stOf_snoc]
    have hp : (l.drop i).Pairwise srtR := hs.drop
    rw [drop_at hi] at hp
    exact keyS_lt hx.1 (ho y (List.mem_of_mem_drop hy)).1 ((List.pairwise_cons.1 hp).1 y hy).1
theorem BInv.end_ {l : List S28} {cs : List (List S28)} {cur : List S28} (h : BInv l l.length cs cur) : cutB [] l = cs := by
  have := h.cut
  rw [List.drop_length] at this
  rw [this]; simp [cutB]
theorem BInv.rows_le {l : List S28} {i : Nat} {cs : List (List S28)} {cur : List S28} (h : BInv l i cs cur) (ho : ∀ x ∈ l,okB x) : (cs.flatMap blk).length ≤ 2400 * i ∧ (cs.flatMap (fun c => put (blk c).length)).length ≤ 10 * i := by
  have hm : ∀ c ∈ cs, (blk c).length < 2400 := fun c hc => blk_length ho (by rw [h.cut]; exact List.mem_append_left _ hc)
  have h1 := flatMap_length_le blk 2400 cs (fun c hc => Nat.le_of_lt (hm c hc))
  have h2 := flatMap_length_le (fun c => put (blk c).length) 10 cs (fun c hc => by have := hm c hc; exact put_length10 (by omega))
  have := Nat.mul_le_mul_right 2400 h.cnt
  have := Nat.mul_le_mul_right 10 h.cnt
  omega
end Go.Proofs.Ytenmljkddhonmaa.MTbl

/- The order of entries: ikey.Less and the reference's Less tell the same. -/
namespace Go.Proofs.Ytenmljkddhonmaa.QTbl
open Go.RowKit Go.Proofs.Ytenmljkddhonmaa.MTbl Go.Proofs.Ytenmljkddhonmaa.QTbl Go.Proofs.YtenmljkddhonmaaW.PrintWords Go.Proofs.YtenmljkddhonmaaW.PrintLast Go.Proofs.YtenmljkddhonmaaW.PrintMore
set_option linter.unusedVariables false
set_option linter.unusedSimpArgs false
theorem cmpB : ∀ a b : List UInt8, (Lib.compareBytes a b < 0 ↔ Op.bytesLess a b = true) ∧ (Lib.compareBytes a b = 0 ↔ a = b)
  | [], [] => by simp [Lib.compareBytes, Op.bytesLess]
  | [], _ :: _ => by simp [Lib.compareBytes, Op.bytesLess]
  | _ :: _, [] => by simp [Lib.compareBytes, Op.bytesLess]
  | x :: a, y :: b => by
    have ih := cmpB a b
    unfold Lib.compareBytes
    unfold Op.bytesLess
    by_cases h1 : x < y
    · have hne : x ≠ y := fun e => by subst e; exact absurd h1 (UInt8.lt_irrefl x)
      simp [h1, hne]
    · by_cases h2 : y < x
      · have hne : x ≠ y := fun e => by subst e; exact absurd h2 (UInt8.lt_irrefl x)
        simp [h1, h2, hne]
      · have he : x = y := UInt8.le_antisymm (UInt8.not_lt.1 h2) (UInt8.not_lt.1 h1)
        subst he
        simp [UInt8.lt_irrefl, ih.1, ih.2]
theorem Less_eq (a0 : ByteArray) (a1 a2 : Int) (a3 a4 : ByteArray) (b0 : ByteArray) (b1 b2 : Int) (b3 b4 : ByteArray) : ∃ r, ikey_Less.f a0 a1 a2 a3 a4 b0 b1 b2 b3 b4 = some r ∧ incipitref12_Less.f a0 a1 a2 a3 a4 b0 b1 b2 b3 b4 = some r := by
  have h := cmpB a0.data.toList b0.data.toList
  have hn1 : ∀ x : Int, cmp_isNaN_int64.f x = some false := fun x => by simp [cmp_isNaN_int64.f]
  have hn2 : ∀ x : Int, cmp_isNaN_int.f x = some false := fun x => by simp [cmp_isNaN_int.f]
  simp only [ikey_Less.f, ikey_Compare.f, strings_Compare.f, cmp_Compare_int64.f, cmp_Compare_int.f, hn1, hn2, incipitref12_Less.f, Option.bind_some, Lib.toList_data, Bool.false_eq_true, if_false]
  generalize Lib.compareBytes a0.data.toList b0.data.toList = c at h ⊢
  by_cases e : a0.data.toList = b0.data.toList
  · have c0 := h.2.2 e
    rw [if_pos c0, if_pos e]
    by_cases e1 : a1 = b1
    · subst e1
      simp only [Int.lt_irrefl, if_false, gt_iff_lt, Option.bind_some, if_true]
      by_cases l : b2 < a2
      · refine ⟨true, ?_, ?_⟩ <;> simp [l]
      · by_cases l2 : a2 < b2
        · refine ⟨false, ?_, ?_⟩ <;> simp [l, l2]
        · refine ⟨false, ?_, ?_⟩ <;> simp [l, l2]
    · rw [if_neg e1]
      by_cases l : b1 < a1
      · refine ⟨true, ?_, ?_⟩ <;> simp [l]
      · have l2 : b1 > a1 := by omega
        refine ⟨false, ?_, ?_⟩ <;> simp [l, l2]
  · have c0 : ¬ c = 0 := fun z => e (h.2.1 z)
    rw [if_neg c0, if_neg e]
    refine ⟨decide (c < 0), rfl, ?_⟩
    congr 1
    rw [Bool.eq_iff_iff, decide_eq_true_eq]
    exact h.1.symm
end Go.Proofs.Ytenmljkddhonmaa.QTbl

namespace Go.Proofs.Ytenmljkddhonmaa.MTbl
open Go.RowKit Go.Proofs.Ytenmljkddhonmaa.QTbl Go.Proofs.YtenmljkddhonmaaW.PrintWords Go.Proofs.YtenmljkddhonmaaW.PrintLast Go.Proofs.YtenmljkddhonmaaW.PrintMore
set_option linter.unusedVariables false
set_option linter.unusedSimpArgs false
/-! PURE: which entries may be a table's -/
def okM (x : S28) : Bool := (decide (x.f2 = 1) || decide (x.f2 = 0)) && decide (1 ≤ x.f1) && decide (x.f1 ≤ 1125899906842624) && !(decide (x.f2 = 0) && (x.f4.toList != []))
def mayP (p x : S28) : Bool := ltS p x && !(decide (p.f0.toList = x.f0.toList) && decide (p.f1 = x.f1))
def mayL : Option S28 → List S28 → Bool
  | _, [] => true
  | none, x :: t => okM x && mayL (some x) t
  | some p, x :: t => okM x && (mayP p x && mayL (some x) t)
theorem Less_lt3 (a0 : ByteArray) (a1 a2 : Int) (a3 a4 : ByteArray) (b0 : ByteArray) (b1 b2 : Int) (b3 b4 : ByteArray) : ikey_Less.f a0 a1 a2 a3 a4 b0 b1 b2 b3 b4 = some (lt3 a0 a1 a2 b0 b1 b2) := by
  obtain ⟨r, h1, h2⟩ := Less_eq a0 a1 a2 a3 a4 b0 b1 b2 b3 b4
  rw [h1, ← h2]
  unfold incipitref12_Less.f lt3
  by_cases e : a0.toList = b0.toList
  · rw [if_pos e, if_pos e]
    by_cases e1 : a1 = b1
    · rw [if_pos e1, if_pos e1]
    · rw [if_neg e1, if_neg e1]
  · rw [if_neg e, if_neg e]
def prevOf (l : List S28) (i : Nat) : Option S28 := if i = 0 then none else some (rd_T28 l ((i : Int) - 1))
theorem may_l0 (l : List S28) (hl : l.length < 1000000) (d : Nat) : ∀ i : Nat,l.length - i = d → i ≤ l.length → Ev (fun k => table_may.l0 k l l (l.length : Int) (i : Int)) (mayL (prevOf l i) (l.drop i) && decide ((l.length : Int) > 0)) := by
  induction d with
  | zero =>
    intro i hd hi
    refine Ev.succ ?_
    simp only [table_may.l0]
    rw [List.drop_eq_nil_of_le (by omega)]
    refine Ev.ite_neg (by omega) ?_
    have : mayL (prevOf l i) [] = true := by cases prevOf l i <;> rfl
    rw [this, Bool.true_and]
    exact Ev.now _
  | succ d ih =>
    intro i hd hi
    have hlt : i < l.length := by omega
    have hj : ∀ (x39 : Bool) (x : S28),x = l[i] → x39 = !okM x → Ev (fun k => table_may.j1 k l (i : Int) l (l.length : Int) (i : Int) x39 x.f0 x.f1 x.f2 x.f3 x.f4) (mayL (prevOf l i) (l.drop i) && decide ((l.length : Int) > 0)) := by
      intro x39 x hx h39
      refine Ev.succ ?_
      simp only [table_may.j1]
      rw [List.drop_eq_getElem_cons hlt, ← hx]
      have hih := ih (i + 1) (by omega) (by omega)
      have hpv : prevOf l (i + 1) = some x := by
        unfold prevOf
        rw [if_neg (by omega), show ((i + 1 : Nat) : Int) - 1 = (i : Int) by omega, rd_T28_nat l i hlt, hx]
      rw [hpv] at hih
      have en : wrap64 ((i : Int) + 1) = ((i + 1 : Nat) : Int) := by rw [wrap64_id (by omega) (by omega)]; omega
      rw [en]
      cases hok : okM x with
      | false =>
        rw [hok] at h39
        refine Ev.ite_pos (by rw [h39]; rfl) ?_
        have : mayL (prevOf l i) (x :: l.drop (i + 1)) = false := by cases prevOf l i <;> simp [mayL, hok]
        rw [this, Bool.false_and]
        exact Ev.now _
      | true =>
        rw [hok] at h39
        refine Ev.ite_neg (by rw [h39]; simp) ?_
        by_cases h0 : i = 0
        · refine Ev.ite_neg (by omega) ?_
          have : mayL (prevOf l i) (x :: l.drop (i + 1)) = mayL (some x) (l.drop (i + 1)) := by rw [h0]; simp [prevOf, mayL, hok]
          rw [this]
          exact hih
        · rw [wrap64_id (n := (i : Int) - 1) (by omega) (by omega)]
          refine Ev.ite_pos (by omega) (Ev.ite_pos (by omega) (Ev.ite_pos (by omega) ?_))
          have hp : prevOf l i = some (rd_T28 l ((i : Int) - 1)) := by unfold prevOf; rw [if_neg h0]
          rw [hp]
          generalize rd_T28 l ((i : Int) - 1) = p
          have hm : mayL (some p) (x :: l.drop (i + 1)) = (mayP p x && mayL (some x) (l.drop (i + 1))) := by simp [mayL, hok]
          rw [hm]
          refine Ev.bind (Ev.same (Less_lt3 p.f0 p.f1 p.f2 p.f3 p.f4 x.f0 x.f1 x.f2 x.f3 x.f4)) ?_
          cases hlt3 : lt3 p.f0 p.f1 p.f2 x.f0 x.f1 x.f2 with
          | false =>
            have : mayP p x = false := by unfold mayP ltS; rw [hlt3]; rfl
            rw [this]
            refine Ev.ite_neg (by simp) ?_
            exact Ev.now _
          | true =>
            refine Ev.ite_pos rfl ?_
            by_cases e1 : p.f0.toList = x.f0.toList
            · refine Ev.ite_pos e1 ?_
              by_cases e2 : p.f1 = x.f1
              · have : mayP p x = false := by unfold mayP; simp [e1, e2]
                rw [this]
                exact Ev.ite_pos e2 (Ev.now _)
              · have : mayP p x = true := by unfold mayP ltS; simp [hlt3, e2]
                rw [this, Bool.true_and]
                exact Ev.ite_neg e2 hih
            · have : mayP p x = true := by unfold mayP ltS; simp [hlt3, e1]
              rw [this, Bool.true_and]
              exact Ev.ite_neg e1 hih
    refine Ev.succ ?_
    simp only [table_may.l0]
    refine Ev.ite_pos (by omega) (Ev.ite_pos (by omega) (Ev.ite_pos (by omega) ?_))
    rw [rd_T28_nat l i hlt]
    have hj' := fun b => hj b l[i] rfl
    generalize l[i] = x at hj'
    by_cases c1 : x.f2 = 1
    · refine Ev.ite_pos c1 ?_
      by_cases c2 : x.f1 < 1
      · exact Ev.ite_pos c2 (hj' true (by unfold okM; simp; omega))
      · refine Ev.ite_neg c2 ?_
        by_cases c3 : x.f1 > 1125899906842624
        · exact Ev.ite_pos c3 (hj' true (by unfold okM; simp; omega))
        · exact Ev.ite_neg c3 (Ev.ite_neg (by omega) (hj' false (by unfold okM; simp [c1]; omega)))
    · refine Ev.ite_neg c1 ?_
      by_cases c4 : x.f2 = 0
      · refine Ev.ite_pos c4 ?_
        by_cases c2 : x.f1 < 1
        · exact Ev.ite_pos c2 (hj' true (by unfold okM; simp; omega))
        · refine Ev.ite_neg c2 ?_
          by_cases c3 : x.f1 > 1125899906842624
          · exact Ev.ite_pos c3 (hj' true (by unfold okM; simp; omega))
          · refine Ev.ite_neg c3 (hj' _ ?_)
            unfold okM
            have k2 : 1 ≤ x.f1 := by omega
            have k3 : x.f1 ≤ 1125899906842624 := by omega
            simp [c4, k2, k3]
      · exact Ev.ite_neg c4 (hj' true (by unfold okM; simp [c1, c4]))
theorem may_ev (l : List S28) (hl : l.length < 1000000) : Ev (fun k => table_may.f k l) (mayL none l && decide ((l.length : Int) > 0)) := may_l0 l hl l.length 0 rfl (Nat.zero_le _)
theorem mayL_of : ∀ (l : List S28) (p : Option S28), l.Pairwise srtR → (∀ x ∈ l, okM x = true) → (∀ q, p = some q → ∀ x ∈ l, srtR q x) → mayL p l = true
  | [], p, _, _, _ => by cases p <;> rfl
  | x :: t, p, hl, ho, hp => by
    obtain ⟨h1, h2⟩ := List.pairwise_cons.1 hl
    have ih := mayL_of t (some x) h2 (fun y hy => ho y (List.mem_cons_of_mem _ hy)) (fun q hq y hy => by cases hq; exact h1 y hy)
    have hx := ho x (List.mem_cons_self ..)
    cases p with
    | none => simp [mayL, hx, ih]
    | some q =>
      obtain ⟨a1, a2⟩ := hp q rfl x (List.mem_cons_self ..)
      have : mayP q x = true := by
        unfold mayP; rw [a1]
        by_cases e1 : q.f0.toList = x.f0.toList
        · have e2 : ¬ q.f1 = x.f1 := fun e => a2 ⟨e1, e⟩
          simp [e2]
        · simp [e1]
      simp [mayL, hx, ih, this]
end Go.Proofs.Ytenmljkddhonmaa.MTbl

/- Filters: what was set stays set; hashes and places are told. -/
namespace Go.Proofs.Ytenmljkddhonmaa.QTbl
open Go.RowKit Go.Proofs.Ytenmljkddhonmaa.MTbl Go.Proofs.Ytenmljkddhonmaa.QTbl Go.Proofs.YtenmljkddhonmaaW.PrintWords Go.Proofs.YtenmljkddhonmaaW.PrintLast Go.Proofs.YtenmljkddhonmaaW.PrintMore
set_option linter.unusedVariables false
set_option linter.unusedSimpArgs false
theorem bb : ∀ y, y < 256 → ∀ i, i < 8 → ∀ j, j < 8 → ((Go.bits .and .u8 (Go.bits .or .u8 ((y : Nat) : Int) (2 ^ i % 256)) (2 ^ j % 256) == 0) = ((Go.bits .and .u8 (y : Int) (2 ^ j % 256) == 0) && !(i == j))) ∧ 0 ≤ Go.bits .or .u8 (y : Int) (2 ^ i % 256) ∧ Go.bits .or .u8 (y : Int) (2 ^ i % 256) < 256 := by decide +kernel
/-- A row of bytes. -/
def rowB (b : List Int) : Prop := ∀ x ∈ b, 0 ≤ x ∧ x < 256
theorem rowB_get {b : List Int} (h : rowB b) (i : Nat) : ∃ y : Nat, y < 256 ∧ b.getD i 0 = (y : Int) := by
  rw [List.getD_eq_getElem?_getD]
  cases e : b[i]? with
  | none => exact ⟨0, by omega, rfl⟩
  | some x =>
    have := h x (List.mem_of_getElem? e)
    exact ⟨x.toNat, by omega, by simp only [Option.getD_some]; omega⟩
theorem setBit_len (b : List Int) (p : Int) : (setBit b p).length = b.length := by unfold setBit; rw [List.length_set]
theorem setBit_row {b : List Int} (h : rowB b) (p : Int) : rowB (setBit b p) := by
  intro x hx
  unfold setBit at hx
  rcases List.mem_or_eq_of_mem_set hx with hx | rfl
  · exact h x hx
  · obtain ⟨y, hy, e⟩ := rowB_get h (p / 8).toNat
    rw [e]
    exact (bb y hy (p % 8).toNat (by omega) 0 (by omega)).2
theorem setBit_keep {b : List Int} (h : rowB b) (p q : Int) (hb : bitSet b p = true) : bitSet (setBit b q) p = true := by
  unfold bitSet setBit at *
  by_cases e : (q / 8).toNat = (p / 8).toNat
  · by_cases l : (p / 8).toNat < b.length
    · rw [e, List.getD_eq_getElem?_getD (l := b.set _ _), List.getElem?_set_self l, Option.getD_some]
      obtain ⟨y, hy, e2⟩ := rowB_get h (p / 8).toNat
      rw [e2] at hb ⊢
      rw [(bb y hy (q % 8).toNat (by omega) (p % 8).toNat (by omega)).1]
      simp only [Bool.not_eq_true', Bool.not_and, Bool.not_not, Bool.or_eq_true] at hb ⊢
      rw [hb]; simp
    · rw [List.set_eq_of_length_le (by omega)]; exact hb
  · rw [List.getD_eq_getElem?_getD (l := b.set _ _), List.getElem?_set_ne e, ← List.getD_eq_getElem?_getD]; exact hb
theorem setBit_self {b : List Int} (h : rowB b) (p : Int) (hp : (p / 8).toNat < b.length) : bitSet (setBit b p) p = true := by
  unfold bitSet setBit
  rw [List.getD_eq_getElem?_getD (l := b.set _ _), List.getElem?_set_self hp, Option.getD_some]
  obtain ⟨y, hy, e2⟩ := rowB_get h (p / 8).toNat
  rw [e2, (bb y hy (p % 8).toNat (by omega) (p % 8).toNat (by omega)).1]
  simp
theorem fold_row : ∀ (ps b : List Int), rowB b → rowB (ps.foldl setBit b) ∧ (ps.foldl setBit b).length = b.length
  | [], b, h => ⟨h, rfl⟩
  | p :: t, b, h => by
    have := fold_row t (setBit b p) (setBit_row h p)
    exact ⟨this.1, this.2.trans (setBit_len b p)⟩
theorem fold_keep : ∀ (ps b : List Int) (p : Int), rowB b → bitSet b p = true → bitSet (ps.foldl setBit b) p = true
  | [], _, _, _, hb => hb
  | q :: t, b, p, h, hb => fold_keep t (setBit b q) p (setBit_row h q) (setBit_keep h p q hb)
theorem fold_self : ∀ (ps b : List Int), rowB b → (∀ p ∈ ps, (p / 8).toNat < b.length) → ∀ p ∈ ps, bitSet (ps.foldl setBit b) p = true
  | [], _, _, _, p, hp => by cases hp
  | q :: t, b, h, hl, p, hp => by
    rcases List.mem_cons.1 hp with rfl | hp
    · exact fold_keep t _ _ (setBit_row h p) (setBit_self h p (hl p (List.mem_cons_self ..)))
    · exact fold_self t (setBit b q) (setBit_row h q) (fun x hx => by rw [setBit_len]; exact hl x (List.mem_cons_of_mem _ hx)) p hp
theorem u64_nonneg (x : Int) : 0 ≤ IntKind.u64.wrap x := by simp only [IntKind.wrap, IntKind.signed, IntKind.bits, Bool.false_and, Bool.false_eq_true, if_false]; omega
theorem Hash_l0 (s : ByteArray) (hs : s.size ≤ 9223372036854775807) (d : Nat) : ∀ (i : Nat) (h : Int), s.size - i = d → 0 ≤ h → ∃ r, 0 ≤ r ∧ Ev (fun k => ckey_Hash.l0 k s h (s.size : Int) (i : Int)) r := by
  induction d with
  | zero =>
    intro i h hd h0
    refine ⟨h, h0, Ev.succ ?_⟩
    simp only [ckey_Hash.l0]
    exact Ev.ite_neg (by omega) (Ev.now _)
  | succ d ih =>
    intro i h hd h0
    obtain ⟨r, hr, he⟩ := ih (i + 1) (IntKind.u64.wrap ((Go.bits .xor .u64 h (IntKind.u64.wrap (bt s (i : Int)))) * 1099511628211)) (by omega) (u64_nonneg _)
    refine ⟨r, hr, Ev.succ ?_⟩
    simp only [ckey_Hash.l0]
    rw [wrap64_id (n := (i : Int) + 1) (by omega) (by omega)]
    exact Ev.ite_pos (by omega) (Ev.ite_pos (by omega) (Ev.ite_pos (by omega) he))
theorem Hash_ev (s : ByteArray) (hs : s.size ≤ 9223372036854775807) : ∃ r, 0 ≤ r ∧ Ev (fun k => ckey_Hash.f k s) r := Hash_l0 s hs s.size 0 14695981039346656037 rfl (by omega)
theorem Rot_some (h : Int) : ∃ d, bits_RotateLeft64.f h (-17) = some d := by
  unfold bits_RotateLeft64.f
  rw [if_pos (by decide +kernel), if_pos (by decide +kernel)]
  exact ⟨_, rfl⟩
theorem places_ev (s : ByteArray) (size : Int) (hs : s.size ≤ 9223372036854775807) (hz : 0 < size) : ∃ ps, Ev (fun k => placesF k s size) ps ∧ ∀ p ∈ ps, 0 ≤ p ∧ p < size := by
  obtain ⟨h, h0, he⟩ := Hash_ev s hs
  obtain ⟨d, hd⟩ := Rot_some h
  refine ⟨plc h d size 6, ?_, (plc_props d size hz 6 h h0).2⟩
  unfold placesF
  refine Ev.bind he ?_
  rw [hd]
  exact Ev.same (by rw [Option.bind_some, if_pos ⟨hz, h0⟩])
theorem Ev.det {α : Type} {g : Nat → Option α} {a b : α} (h : Ev g a) (h' : Ev g b) : a = b := by
  obtain ⟨K, h⟩ := h
  obtain ⟨K', h'⟩ := h'
  have h1 := h (max K K') (Nat.le_max_left _ _)
  have h2 := h' (max K K') (Nat.le_max_right _ _)
  rw [h1] at h2
  exact Option.some.inj h2
/-- What was made of a list of texts: each text's bits are set. -/
theorem make_ev (S : Int) (h8 : 1 ≤ S) : ∀ (l : List ByteArray) (b : List Int), (∀ x ∈ l, x.size ≤ 9223372036854775807) → rowB b → (S.toNat < b.length) →
    ∃ b', Ev (fun k => makeL k S l b) b' ∧ rowB b' ∧ b'.length = b.length ∧ (∀ p, bitSet b p = true → bitSet b' p = true) ∧ ∀ x ∈ l, ∃ ps, Ev (fun k => placesF k x (S * 8)) ps ∧ (∀ p ∈ ps, 0 ≤ p ∧ p < S * 8) ∧ ∀ p ∈ ps, bitSet b' p = true
  | [], b, _, hb, _ => ⟨b, Ev.now _, hb, rfl, fun _ h => h, fun x hx => by cases hx⟩
  | x :: t, b, hl, hb, hn => by
    obtain ⟨ps, e1, hp⟩ := places_ev x (S * 8) (hl x (List.mem_cons_self ..)) (by omega)
    have hr := fold_row ps b hb
    obtain ⟨b', e2, h1, h2, h3, h4⟩ := make_ev S h8 t (ps.foldl setBit b) (fun y hy => hl y (List.mem_cons_of_mem _ hy)) hr.1 (by rw [hr.2]; exact hn)
    refine ⟨b', ?_, h1, h2.trans hr.2, fun p hp => h3 p (fold_keep ps b p hb hp), fun y hy => ?_⟩
    · simp only [makeL]; exact Ev.bind e1 e2
    · rcases List.mem_cons.1 hy with rfl | hy
      · exact ⟨ps, e1, hp, fun p h => h3 p (fold_self ps b hb (fun q hq => by have := hp q hq; omega) p h)⟩
      · exact h4 y hy
end Go.Proofs.Ytenmljkddhonmaa.QTbl

namespace Go.Proofs.Ytenmljkddhonmaa.MTbl
open Go.RowKit Go.Proofs.Ytenmljkddhonmaa.QTbl Go.Proofs.YtenmljkddhonmaaW.PrintWords Go.Proofs.YtenmljkddhonmaaW.PrintLast Go.Proofs.YtenmljkddhonmaaW.PrintMore
set_option linter.unusedVariables false
set_option linter.unusedSimpArgs false
/-! PURE: a filter tells of none of its texts that it is not there -/
theorem maxLen_eq : maxLen = 9223372036854775807 := by decide +kernel
theorem flt_ok (L : List ByteArray) (hL : L.length < 10000) (hs : ∀ x ∈ L, x.size ≤ 9223372036854775807) :
    ∃ flt,Ev (fun k => bloom_Make.f k L) flt ∧ flt.length = (sizeM L.length + 1).toNat ∧ Bytes flt ∧ ∀ s : ByteArray,s.size ≤ maxLen → ∃ rb,Ev (fun k => bloom_May.f k flt s) rb ∧ (s ∈ L → rb = true) := by
  obtain ⟨S, hS⟩ : ∃ S, S = sizeM L.length := ⟨_, rfl⟩
  have hr := sizeM_range L.length (by omega)
  rw [← hS] at hr
  have hSb : S < 100000 := by rw [hS]; unfold sizeM; split <;> omega
  obtain ⟨b', e1, h1, h2, _, h4⟩ := make_ev S (by omega) L (List.replicate (S + 1).toNat 0) hs (fun x hx => by rw [List.mem_replicate] at hx; omega) (by rw [List.length_replicate]; omega)
  rw [List.length_replicate] at h2
  have hlen : (b'.set S.toNat 6).length = (S + 1).toNat := by rw [List.length_set]; exact h2
  refine ⟨b'.set S.toNat 6, ?_, by rw [hlen, hS], ?_, fun s hsz => ?_⟩
  · unfold bloom_Make.f
    rw [← hS]
    exact Ev.ite_pos (by omega) (Ev.bind e1 (Ev.now _))
  · intro c hc
    rcases List.mem_or_eq_of_mem_set hc with h | h
    · exact h1 c h
    · rw [h]; omega
  · obtain ⟨ps, p1, p2⟩ := places_ev s (S * 8) (by rw [maxLen_eq] at hsz; exact hsz) (by omega)
    refine ⟨ps.all (bitSet (b'.set S.toNat 6)), ?_, fun hm => ?_⟩
    · unfold bloom_May.f
      rw [hlen]
      have e1 : (((S + 1).toNat : Int) - 1) = S := by omega
      have e2 : (S + 1).toNat - 1 = S.toNat := by omega
      rw [e1, e2]
      refine Ev.ite_pos (by omega) (Ev.ite_neg (by omega) ?_)
      rw [List.getD_eq_getElem?_getD, List.getElem?_set_self (by omega), Option.getD_some]
      exact Ev.ite_pos rfl (Ev.bind p1 (Ev.now _))
    · obtain ⟨qs, q1, q2, q3⟩ := h4 s hm
      have hpq : ps = qs := Ev.det p1 q1
      subst hpq
      rw [List.all_eq_true]
      intro p hpp
      have h1 := q3 p hpp
      have h2 := q2 p hpp
      unfold bitSet at h1 ⊢
      rw [List.getD_eq_getElem?_getD, List.getElem?_set_ne (by omega), ← List.getD_eq_getElem?_getD]
      exact h1
/-- The forms of entries, equal ones behind one another once. -/
def comp : List ByteArray → List ByteArray
  | [] => []
  | [x] => [x]
  | x :: y :: t => if x.toList = y.toList then comp (y :: t) else x :: comp (y :: t)
end Go.Proofs.Ytenmljkddhonmaa.MTbl

namespace Go.Proofs.Ytenmljkddhonmaa.MTbl
open Go.RowKit Go.Proofs.Ytenmljkddhonmaa.QTbl Go.Proofs.YtenmljkddhonmaaW.PrintWords Go.Proofs.YtenmljkddhonmaaW.PrintLast Go.Proofs.YtenmljkddhonmaaW.PrintMore
set_option linter.unusedVariables false
set_option linter.unusedSimpArgs false
set_option maxHeartbeats 2000000 in
set_option maxRecDepth 1000000 in
/-- Entries that may not stand in a table. -/
theorem table_Build_no.calls (k : Nat) (A : Option Addr) (c : Nat) (l : List S28) (w : World) (hr : Kd.C k28 w A l.length l) (hc : l.length ≤ c) (hm : table_may.f k l = some false) :
    Calls Try.prog 22 #[.slice A l.length c] w fun e w' => e = .returned (.tuple #[.slice none 0 0, .int .i64 12]) ∧ Below w.heap.size w w' := by
  have HQ := Aside0.mk (table_may.calls k A c l false w hr hc hm)
  clear hr hc hm
  go_enter Try.func22, Try.ntmps22
  go_wp2_with (go_at_call 40; refine HQ.out.mono ?_; rintro e w1 ⟨rfl, hb⟩; have HB := Aside0.mk hb; clear hb)
  go_ret2
  exact ⟨rfl, HB.out⟩
theorem BuS.start {w w1 w2 : World} {g : Nat} (hb1 : Below w.heap.size w w1)
    (hN : BldN (((w1.alloc (.cells #[.slice none 0 0] 43)).alloc (.cells #[.slice none 0 0] 43)).alloc (.cells #[.int .i64 0] 3)).heap.size w2 g St0)
    (hb2 : Below (((w1.alloc (.cells #[.slice none 0 0] 43)).alloc (.cells #[.slice none 0 0] 43)).alloc (.cells #[.int .i64 0] 3)).heap.size (((w1.alloc (.cells #[.slice none 0 0] 43)).alloc (.cells #[.slice none 0 0] 43)).alloc (.cells #[.int .i64 0] 3)) w2) :
    BuS w (w2.alloc (.cells #[.pointer (some ⟨g,0,none⟩)] 82)) w2.heap.size w1.heap.size (w1.heap.size + 1) (w1.heap.size + 1 + 1) (w1.heap.size + 3) g (.slice none 0 0) (.slice none 0 0) St0 [] [] 0 ∧ w.heap.size ≤ w1.heap.size + 3 := by
  have r1 := heap_new_ w1 (.cells #[.slice none 0 0] 43)
  have s1 := heap_new_ (w1.alloc (.cells #[.slice none 0 0] 43)) (.cells #[.slice none 0 0] 43)
  have c1 := heap_new_ ((w1.alloc (.cells #[.slice none 0 0] 43)).alloc (.cells #[.slice none 0 0] 43)) (.cells #[.int .i64 0] 3)
  have hW : (((w1.alloc (.cells #[.slice none 0 0] 43)).alloc (.cells #[.slice none 0 0] 43)).alloc (.cells #[.int .i64 0] 3)).heap.size = w1.heap.size + 3 := by simp [World.size_alloc]
  have e1 : (w1.alloc (.cells #[.slice none 0 0] 43)).heap.size = w1.heap.size + 1 := by simp
  have e2 : ((w1.alloc (.cells #[.slice none 0 0] 43)).alloc (.cells #[.slice none 0 0] 43)).heap.size = w1.heap.size + 1 + 1 := by simp
  have r2 := blk_alloc (blk_alloc r1 (.cells #[.slice none 0 0] 43)) (.cells #[.int .i64 0] 3)
  have s2 := blk_alloc s1 (.cells #[.int .i64 0] 3)
  have hBW : Below w.heap.size w (((w1.alloc (.cells #[.slice none 0 0] 43)).alloc (.cells #[.slice none 0 0] 43)).alloc (.cells #[.int .i64 0] 3)) := below_alloc (below_alloc (below_alloc hb1 _) _) _
  rw [e1] at s2
  rw [e2] at c1
  have hlw := hb1.size
  generalize (((w1.alloc (.cells #[.slice none 0 0] 43)).alloc (.cells #[.slice none 0 0] 43)).alloc (.cells #[.int .i64 0] 3)) = W at *
  have r3 := blk_alloc (blk_below r2 hb2) (.cells #[.pointer (some ⟨g, 0, none⟩)] 82)
  have s3 := blk_alloc (blk_below s2 hb2) (.cells #[.pointer (some ⟨g, 0, none⟩)] 82)
  have c3 := blk_alloc (blk_below c1 hb2) (.cells #[.pointer (some ⟨g, 0, none⟩)] 82)
  have b3 := heap_new_ w2 (.cells #[.pointer (some ⟨g, 0, none⟩)] 82)
  have hs2 := hb2.size
  refine ⟨⟨below_alloc (hBW.trans (hb2.mono (by omega))) _,b3,r3,s3,c3,by omega,⟨by omega,by omega⟩,⟨by omega,by omega⟩,⟨by omega,by omega⟩,by omega,Kd.R_nil _ _ _ _ _,Kd.R_nil _ _ _ _ _,fun k hk => by simp [Value.ownBlock] at hk,?_⟩,by omega⟩
  rw [← hW]
  exact hN.below (below_alloc (Below.refl _ _) _)
set_option maxHeartbeats 4000000 in
set_option maxRecDepth 1000000 in
theorem table_Build.calls (k : Nat) (A : Option Addr) (c : Nat) (l : List S28) (w : World) (hr : Kd.C k28 w A l.length l) (hc : l.length ≤ c) (hm : table_may.f k l = some true) (hne : l ≠ []) (hl : l.length ≤ 1000) (hs : l.Pairwise srtR) (ho : ∀ x ∈ l,okB x)
    (flt : List Int) (K0 : Nat) (hflt : bloom_Make.f K0 (compB (l.map S28.f0)) = some flt) (hfl : flt.length < 1000000) (hfb : Bytes flt) :
    Calls Try.prog 22 #[.slice A l.length c] w fun e w' => ∃ v,e = .returned (.tuple #[v,.int .i64 0]) ∧ Kd.R (Kd.int .u8) 5 w' w.heap.size (fun _ => True) v (tblB l flt) ∧ Below w.heap.size w w' := by
  have hu28 := Try.underlying28
  have hu43 := Try.underlying43
  have HQ := Aside0.mk (table_may.calls k A c l true w hr hc hm)
  have HR := Aside0.mk hr
  have HC := Aside0.mk hc
  have HL := Aside0.mk hl
  have HNE := Aside0.mk hne
  have HS := Aside0.mk hs
  have HO := Aside0.mk ho
  have HF := Aside0.mk (And.intro hflt (And.intro hfl hfb))
  clear hr hc hm hl hs ho hflt hfl hfb hne
  go_enter Try.func22, Try.ntmps22
  go_wp2_with (first
    | (go_at_call 40; refine HQ.out.mono ?_; rintro e w1 ⟨rfl, hb⟩; have HB1 := Aside0.mk hb; clear hb)
    | (go_at_call 41; refine (newN.calls _).mono ?_; rintro e w2 ⟨g, rfl, hN, hb⟩; have HN := Aside0.mk hN; have HB2 := Aside0.mk hb; clear hN hb))
  obtain ⟨BS, BN⟩ := BuS.start HB1.out HN.out HB2.out
  have BS := Aside0.mk BS
  clear HN HB2 HB1 HQ
  generalize w1.heap.size + 1 + 1 = pc at *
  generalize w1.heap.size + 1 = ps at *
  generalize w1.heap.size + 3 = n0 at *
  generalize w1.heap.size = pr at *
  generalize w2.heap.size = pb at *
  generalize w2.alloc (.cells #[.pointer (some ⟨g, 0, none⟩)] 82) = w3 at *
  go_loopg [20] l.length (fun kx s20 wr => ∃ (i : Nat) (cs : List (List S28)) (cur : List S28) (n g : Nat) (vr vs : Value),s20 = .int .i64 i ∧ i ≤ l.length ∧ l.length - i ≤ kx ∧ Aside0 (w.heap.size ≤ n) ∧ Aside0 (BInv l i cs cur) ∧ Aside0 (BuS w wr pb pr ps pc n g vr vs (stOf cur) (cs.flatMap blk) (cs.flatMap (fun c => put (blk c).length)) cs.length))
  case atStart => exact ⟨0, [], [], n0, g, _, _, rfl, Nat.zero_le _, by omega, ⟨BN⟩, ⟨BInv.start l⟩, BS⟩
  case round =>
    clear BN BS
    obtain ⟨i, cs, cur, n, g, vr, vs, rfl, hie, hik, HN, HI, HB⟩ := hrel
    by_cases hi : i < l.length
    · cases gk with
      | zero => omega
      | succ k1 =>
      have HVr := Kd.C_below HR.out HB.out.base
      obtain ⟨ad, rfl, g0, g1, g2, g3, g4⟩ := at_T28 HVr (i : Int) (by omega) (by omega)
      have hx : rd_T28 l (i : Int) = l[i] := by
        unfold rd_T28; rw [Int.toNat_natCast, List.getD_eq_getElem?_getD, List.getElem?_eq_getElem hi]; rfl
      rw [hx] at g0 g1 g2 g3 g4
      rw [Int.toNat_natCast] at g0
      simp only [Int.toNat_natCast] at g1 g2 g3 g4
      clear HVr hx
      have hxo := HO.out _ (List.getElem_mem hi)
      have hll := HL.out
      have HAB := Aside0.mk (HI.out.addB hi)
      have HCUT := Aside0.mk (HI.out.cut_ hi)
      have HGO := Aside0.mk (HI.out.go_ HS.out HO.out hi)
      have HBD := Aside0.mk (HI.out.bounds (by omega))
      have HRL := Aside0.mk (HI.out.rows_le HO.out)
      have HCN := Aside0.mk HI.out.cnt
      have HLA := Aside0.mk HI.out.last
      obtain ⟨K1, hK1⟩ := key_ev l[i] hxo.1
      have HK := Aside0.mk (hK1 K1 (Nat.le_refl _))
      obtain ⟨K2, hK2⟩ := Text_ev (s := (l[i]).f3) (by have := hxo.2.1; omega)
      have HT := Aside0.mk (hK2 K2 (Nat.le_refl _))
      have HX := Aside0.mk hxo
      clear hK1 hK2 hxo
      generalize l[i] = x at *
      have p1 : ((i : Int) < (l.length : Int)) = True := eq_true (by omega)
      have p3 : (i < l.length) = True := eq_true hi
      go_wp2_with (fail)
      have HE := Aside0.mk (heap_new_ wr (.cells #[.string x.f0, .int .i64 x.f1, .int .i64 x.f2, .string x.f3, .string x.f4] 28))
      have HBa := Aside0.mk (HB.out.below (below_alloc (Below.refl _ wr) (.cells #[.string x.f0, .int .i64 x.f1, .int .i64 x.f2, .string x.f3, .string x.f4] 28)))
      clear HB
      generalize wr.alloc (.cells #[.string x.f0, .int .i64 x.f1, .int .i64 x.f2, .string x.f3, .string x.f4] 28) = wa at *
      generalize wr.heap.size = ea at *
      have z0 : wa.cell? ⟨ea, 0, none⟩ = some (.string x.f0) := (blk_cell HE.out 0).trans rfl
      have z1 : wa.cell? ⟨ea, 1, none⟩ = some (.int .i64 x.f1) := (blk_cell HE.out 1).trans rfl
      have z2 : wa.cell? ⟨ea, 2, none⟩ = some (.int .i64 x.f2) := (blk_cell HE.out 2).trans rfl
      have z3 : wa.cell? ⟨ea, 3, none⟩ = some (.string x.f3) := (blk_cell HE.out 3).trans rfl
      have z4 : wa.cell? ⟨ea, 4, none⟩ = some (.string x.f4) := (blk_cell HE.out 4).trans rfl
      have zb : wa.cell? ⟨pb, 0, none⟩ = some (.pointer (some ⟨g, 0, none⟩)) := (blk_cell HBa.out.b 0).trans rfl
      clear g0 g1 g2 g3 g4
      obtain ⟨sT, hsT⟩ : ∃ sT, Aside0 (sT = strOfNums (put x.f3.size ++ bytesOf x.f3)) := ⟨_, ⟨rfl⟩⟩
      have hval : sT ++ x.f4 = valS x := by rw [hsT.out]; rfl
      have hcat : (9223372036854775807 < sT.size + x.f4.size) = False := eq_false (by have := valS_le HX.out; rw [← hval, ByteArray.size_append] at this; omega)
      go_region_held_law (fun w' => w'.cell? ⟨pb,0,none⟩ = some (.pointer (some ⟨g,0,none⟩)) ∧ w'.cell? ⟨ea,0,none⟩ = some (.string x.f0) ∧ w'.cell? ⟨ea,1,none⟩ = some (.int .i64 x.f1) ∧ w'.cell? ⟨ea,2,none⟩ = some (.int .i64 x.f2) ∧ w'.cell? ⟨ea,3,none⟩ = some (.string x.f3) ∧ w'.cell? ⟨ea,4,none⟩ = some (.string x.f4)) (first | exact ⟨vb,v0,v1,v2,v3,v4⟩ | exact ⟨ub,u0,u1,u2,u3,u4⟩ | exact ⟨yb,y0,y1,y2,y3,y4⟩ | exact ⟨zb,z0,z1,z2,z3,z4⟩) (first
        | (go_simp;go_at_call 46;refine (table_key.calls K1 x.f0 x.f1 x.f2 x.f3 x.f4 (keyS x) _ HK.out).mono ?_;rintro e w4 ⟨rfl,hb⟩;have hb4 := below_step (below_drew1 (Below.refl _ wa)) hb;have I4 := Aside0.mk (HBa.out.below hb4);have e4 := blk_below HE.out hb4;have HE4 := Aside0.mk e4;have y0 : w4.cell? ⟨ea,0,none⟩ = some (.string x.f0) := (blk_cell e4 0).trans rfl;have y1 : w4.cell? ⟨ea,1,none⟩ = some (.int .i64 x.f1) := (blk_cell e4 1).trans rfl;have y2 : w4.cell? ⟨ea,2,none⟩ = some (.int .i64 x.f2) := (blk_cell e4 2).trans rfl;have y3 : w4.cell? ⟨ea,3,none⟩ = some (.string x.f3) := (blk_cell e4 3).trans rfl;have y4 : w4.cell? ⟨ea,4,none⟩ = some (.string x.f4) := (blk_cell e4 4).trans rfl;have yb : w4.cell? ⟨pb,0,none⟩ = some (.pointer (some ⟨g,0,none⟩)) := (blk_cell I4.out.b 0).trans rfl;clear hb hb4 e4)
        | (go_simp;go_at_call 47;refine (varint_Text.calls K2 x.f3 _ _ HT.out).mono ?_;rintro e w5 ⟨v0,rfl,hR,hb5⟩;have I5 := Aside0.mk (I4.out.below hb5);have e5 := blk_below HE4.out hb5;have HE5 := Aside0.mk e5;have u0 : w5.cell? ⟨ea,0,none⟩ = some (.string x.f0) := (blk_cell e5 0).trans rfl;have u1 : w5.cell? ⟨ea,1,none⟩ = some (.int .i64 x.f1) := (blk_cell e5 1).trans rfl;have u2 : w5.cell? ⟨ea,2,none⟩ = some (.int .i64 x.f2) := (blk_cell e5 2).trans rfl;have u3 : w5.cell? ⟨ea,3,none⟩ = some (.string x.f3) := (blk_cell e5 3).trans rfl;have u4 : w5.cell? ⟨ea,4,none⟩ = some (.string x.f4) := (blk_cell e5 4).trans rfl;have ub : w5.cell? ⟨pb,0,none⟩ = some (.pointer (some ⟨g,0,none⟩)) := (blk_cell I5.out.b 0).trans rfl;have hks := own_string (P := Try.prog) Try.underlying43 Try.underlying5 Try.underlying9 (Kd.own_of_R hR);rw [← hsT.out] at hks;clear hR hb5 e5)
        | (go_simp;go_at_call 45;refine (addN.calls n w5 g (stOf cur) (keyS x) (valS x) I5.out.bld (by have := HBD.out;omega) (by have := HLA.out;omega) (by have := keyS_le HX.out.1;omega) (by have := valS_le HX.out;omega) (by have := HBD.out;omega) (by have := HBD.out;omega) HAB.out).mono ?_;rintro e w6 ⟨rfl,hN6,hb6,hO6⟩;have I6 := Aside0.mk (BuS.add I5.out HN.out hN6 hb6 hO6);have e6 := hO6.2 ea _ 28 (by obtain ⟨_,_,_,_,hgb,_⟩ := I5.out.bld;exact blk_ne HE5.out hgb (by decide)) (by decide) HE5.out;have v0 : w6.cell? ⟨ea,0,none⟩ = some (.string x.f0) := (blk_cell e6 0).trans rfl;have v1 : w6.cell? ⟨ea,1,none⟩ = some (.int .i64 x.f1) := (blk_cell e6 1).trans rfl;have v2 : w6.cell? ⟨ea,2,none⟩ = some (.int .i64 x.f2) := (blk_cell e6 2).trans rfl;have v3 : w6.cell? ⟨ea,3,none⟩ = some (.string x.f3) := (blk_cell e6 3).trans rfl;have v4 : w6.cell? ⟨ea,4,none⟩ = some (.string x.f4) := (blk_cell e6 4).trans rfl;have vb : w6.cell? ⟨pb,0,none⟩ = some (.pointer (some ⟨g,0,none⟩)) := (blk_cell I6.out.b 0).trans rfl;clear hN6 hb6 hO6 e6))
      have I7 : Aside0 (BuS w w6 pb pr ps pc n g vr vs (stOf (cur ++ [x])) (cs.flatMap blk) (cs.flatMap (fun c => put (blk c).length)) cs.length) := ⟨by rw [stOf_snoc]; exact I6.out⟩
      clear I6 I5 I4 HBa HE HE4 HE5 hks hval hcat hsT HK HT HAB HLA z0 z1 z2 z3 z4 zb y0 y1 y2 y3 y4 yb u0 u1 u2 u3 u4 ub v1 v2 v3 v4 vb
      obtain ⟨sz, hsz⟩ : ∃ sz, Aside0 (sz = szB (stOf (cur ++ [x]))) := ⟨_, ⟨rfl⟩⟩
      have HB2 : Aside0 ((stOf (cur ++ [x])).b.length ≤ 2300000 ∧ (stOf (cur ++ [x])).p.length ≤ 5000) := ⟨by
        have h1 := HBD.out
        obtain ⟨a1, a2, _, _⟩ := addT_bounds (stOf cur) (keyS x) (valS x) (by have := keyS_le HX.out.1; omega) (by have := valS_le HX.out; omega)
        have := keyS_le HX.out.1
        have := valS_le HX.out
        rw [stOf_snoc]
        omega⟩
      have HSN := Aside0.mk (sizeN.calls n w6 g _ I7.out.bld (by have := HB2.out; omega) (by have := HB2.out; omega))
      rw [← hsz.out] at HSN
      by_cases hcut : 200 ≤ sz ∨ i + 1 = l.length
      · have HC2 := Aside0.mk (HCUT.out (by rw [← hsz.out]; exact hcut))
        have hfin : ∀ (w8 : World) (n' g' : Nat) (vr' vs' : Value),BuS w w8 pb pr ps pc n' g' vr' vs' St0 (cs.flatMap blk ++ (stOf (cur ++ [x])).out) (cs.flatMap (fun c => put (blk c).length) ++ put (stOf (cur ++ [x])).out.length) (cs.length + 1) → Aside0 (w.heap.size ≤ n') ∧ Aside0 (BuS w w8 pb pr ps pc n' g' vr' vs' (stOf []) ((cs ++ [cur ++ [x]]).flatMap blk) ((cs ++ [cur ++ [x]]).flatMap (fun c => put (blk c).length)) (cs ++ [cur ++ [x]]).length) := fun w8 n' g' vr' vs' h => ⟨⟨by have := h.hr;omega⟩,⟨by
          rw [List.flatMap_append, List.flatMap_append, List.length_append, List.flatMap_singleton, List.flatMap_singleton]; exact h⟩⟩
        have HFIN := Aside0.mk hfin
        clear hfin HCUT HGO HI
        by_cases h200 : 200 ≤ sz
        · have p5 : ((200 : Int) ≤ (sz : Int)) = True := eq_true (by omega)
          clear hcut
          go_wp2_with (first
          | (go_at_call 48; refine HSN.out.mono ?_; rintro e w7 ⟨rfl, m7, rfl⟩; have I8 := Aside0.mk (I7.out.below (pw_below_drewN (Below.refl _ w6) m7)))
          | (go_at_call 42;refine (end.calls w _ pb pr ps pc n g vr vs _ _ _ _ I8.out (by have := HB2.out;omega) (by have := HB2.out;omega) (by have := HRL.out;omega) (by have := HRL.out;omega) (by have := HCN.out;omega)).mono ?_;rintro e w8 ⟨rfl,n',g',vr',vs',hI9⟩;have I9 := Aside0.mk hI9;clear hI9))
          go_roundg k1
          case measure => omega
          case rel => exact ⟨i + 1, cs ++ [cur ++ [x]], [], n', g', vr', vs', by go_num, by omega, by omega, (HFIN.out _ _ _ _ _ I9.out).1, HC2, (HFIN.out _ _ _ _ _ I9.out).2⟩
        · have p5 : ((200 : Int) ≤ (sz : Int)) = False := eq_false (by omega)
          have p6 : ((i : Int) == (l.length : Int) - 1) = true := beq_iff_eq.2 (by omega)
          clear hcut
          go_wp2_with (first
          | (go_at_call 48; refine HSN.out.mono ?_; rintro e w7 ⟨rfl, m7, rfl⟩; have I8 := Aside0.mk (I7.out.below (pw_below_drewN (Below.refl _ w6) m7)))
          | (go_at_call 42;refine (end.calls w _ pb pr ps pc n g vr vs _ _ _ _ I8.out (by have := HB2.out;omega) (by have := HB2.out;omega) (by have := HRL.out;omega) (by have := HRL.out;omega) (by have := HCN.out;omega)).mono ?_;rintro e w8 ⟨rfl,n',g',vr',vs',hI9⟩;have I9 := Aside0.mk hI9;clear hI9))
          go_roundg k1
          case measure => omega
          case rel => exact ⟨i + 1, cs ++ [cur ++ [x]], [], n', g', vr', vs', by go_num, by omega, by omega, (HFIN.out _ _ _ _ _ I9.out).1, HC2, (HFIN.out _ _ _ _ _ I9.out).2⟩
      · have HC2 := Aside0.mk (HGO.out (by rw [← hsz.out]; omega) (by omega))
        have p5 : ((200 : Int) ≤ (sz : Int)) = False := eq_false (by omega)
        have p6 : ((i : Int) == (l.length : Int) - 1) = false := beq_eq_false_iff_ne.2 (by omega)
        clear HCUT HGO HI
        go_wp2_with (first
          | (go_at_call 48; refine HSN.out.mono ?_; rintro e w7 ⟨rfl, m7, rfl⟩; have I8 := Aside0.mk (I7.out.below (pw_below_drewN (Below.refl _ w6) m7)))
          | (go_at_call 42;refine (end.calls w _ pb pr ps pc n g vr vs _ _ _ _ I8.out (by have := HB2.out;omega) (by have := HB2.out;omega) (by have := HRL.out;omega) (by have := HRL.out;omega) (by have := HCN.out;omega)).mono ?_;rintro e w8 ⟨rfl,n',g',vr',vs',hI9⟩;have I9 := Aside0.mk hI9;clear hI9))
        go_roundg k1
        case measure => omega
        case rel => exact ⟨i + 1, cs, cur ++ [x], n, g, vr, vs, by go_num, by omega, by omega, HN, HC2, I8⟩
    · have hie2 : i = l.length := by omega
      subst hie2
      have hcs := HI.out.end_
      subst hcs
      obtain ⟨Ar, cr, er⟩ := Kd.R_slice HB.out.R
      subst er
      obtain ⟨As, c_s, es⟩ := Kd.R_slice HB.out.S
      subst es
      have hrl := rowsB_length HL.out HO.out
      have hnl := cutB_length_le l []
      have hsl := (HI.out.rows_le HO.out).2
      have hbb := (tblB_bytes HNE.out HL.out HO.out HF.out.2.2).1
      have hll := HL.out
      have HRES : Aside0 (∀ RB SB NB,RB = rowsB l → SB = sizesB l → NB = (cutB [] l).length → fix (8 + RB.length + (put NB ++ SB ++ flt).length + 12) 8 ++ RB ++ (put NB ++ SB ++ flt) ++ fix (put NB ++ SB ++ flt).length 4 = bodyB l flt) := ⟨by rintro RB SB NB rfl rfl rfl;rfl⟩
      have HTB : Aside0 (tblB l flt = bodyB l flt ++ fix (QCrc.sum (bodyB l flt)) 4 ++ fix 1768842089 4) := ⟨rfl⟩
      clear HI
      go_wp2_with (fail)
      have HB' : Aside0 (BuS w wr pb pr ps pc n g (.slice Ar (rowsB l).length cr) (.slice As (sizesB l).length c_s) (stOf cur) (rowsB l) (sizesB l) (cutB [] l).length) := ⟨HB.out⟩
      clear HB
      have hsl : (sizesB l).length ≤ 10 * l.length := hsl
      obtain ⟨RB, hRB⟩ : ∃ RB, RB = rowsB l := ⟨_, rfl⟩
      obtain ⟨SB, hSB⟩ : ∃ SB, SB = sizesB l := ⟨_, rfl⟩
      obtain ⟨NB, hNB⟩ : ∃ NB, NB = (cutB [] l).length := ⟨_, rfl⟩
      have HRES2 := Aside0.mk (HRES.out RB SB NB hRB hSB hNB)
      rw [← hRB, ← hSB, ← hNB] at HB'
      rw [← hRB] at hrl
      rw [← hSB] at hsl
      rw [← hNB] at hnl
      clear HRES hRB hSB hNB
      have hpn := put_length10 (n := NB) (by omega)
      obtain ⟨TN, hTN⟩ : ∃ TN, TN = (put NB ++ SB ++ flt).length := ⟨_, rfl⟩
      have hTN2 : TN = (put NB).length + SB.length + flt.length := by rw [hTN]; simp only [List.length_append]
      rw [← hTN] at HRES2
      have hfl := HF.out.2.1
      obtain ⟨FX, hFX⟩ : ∃ FX, FX = fix (8 + RB.length + TN + 12) 8 := ⟨_, rfl⟩
      have hFXl : FX.length = 8 := by rw [hFX, fix_length]
      have BD := Aside0.mk (And.intro hrl (And.intro hsl (And.intro hpn (And.intro hfl (And.intro hFXl (And.intro hTN2 hll))))))
      obtain ⟨K3, hK3⟩ := Put_ev (n := NB) (by omega)
      have HK3 := Aside0.mk (hK3 K3 (Nat.le_refl _))
      obtain ⟨K6, hK6⟩ := Put64_ev (n := 8 + RB.length + TN + 12) (by omega)
      have HK6 := Aside0.mk (hK6 K6 (Nat.le_refl _))
      rw [← hFX] at HK6 HRES2
      obtain ⟨K7, hK7⟩ := Put32_ev (n := TN) (by omega)
      have HK7 := Aside0.mk (hK7 K7 (Nat.le_refl _))
      have hbl : (FX ++ RB ++ (put NB ++ SB ++ flt) ++ fix TN 4).length < 10000000 := by simp only [List.length_append, fix_length]; omega
      rw [← HRES2.out] at hbb
      obtain ⟨K8, hK8⟩ := QCrc.Sum_ev hbb (by omega)
      have HK8 := Aside0.mk (hK8 K8 (Nat.le_refl _))
      obtain ⟨SM, hSM⟩ : ∃ SM, SM = QCrc.sum (FX ++ RB ++ (put NB ++ SB ++ flt) ++ fix TN 4) := ⟨_, rfl⟩
      have hSMl := QCrc.sum_lt hbb
      rw [← hSM] at HK8 hSMl
      obtain ⟨K9, hK9⟩ := Put32_ev (n := SM) (by omega)
      have HK9 := Aside0.mk (hK9 K9 (Nat.le_refl _))
      obtain ⟨K10, hK10⟩ := Put32_ev (n := 1768842089) (by omega)
      have HK10 : Aside0 (varint_Put32.f K10 1768842089 = some (fix 1768842089 4)) := ⟨hK10 K10 (Nat.le_refl _)⟩
      have HSM := Aside0.mk hSM
      have HTN := Aside0.mk hTN
      have HBL := Aside0.mk hbl
      clear hK3 hK6 hK7 hK8 hK9 hK10 hbb hSM hFX hTN hbl
      have hNBw : IntKind.u64.wrap (NB : Int) = (NB : Int) := u64_id (by omega) (by omega)
      have HCr : Aside0 (∀ w', Below wr.heap.size wr w' → Kd.C (Kd.int .u8) w' Ar RB.length RB) := ⟨fun w' h => by have h_ := Kd.R_reads' (Kd.R_below HB'.out.R h); exact h_.2.2⟩
      have HCs : Aside0 (∀ w', Below wr.heap.size wr w' → Kd.C (Kd.int .u8) w' As SB.length SB) := ⟨fun w' h => by have h_ := Kd.R_reads' (Kd.R_below HB'.out.S h); exact h_.2.2⟩
      have Hzr : Aside0 (∀ w', Below wr.heap.size wr w' → w'.cell? ⟨pr, 0, none⟩ = some (.slice Ar RB.length cr)) := ⟨fun w' h => (blk_cell (blk_below HB'.out.r h) 0).trans rfl⟩
      have zc : wr.cell? ⟨pc, 0, none⟩ = some (.int .i64 NB) := (blk_cell HB'.out.c 0).trans rfl
      have zs : wr.cell? ⟨ps, 0, none⟩ = some (.slice As SB.length c_s) := (blk_cell HB'.out.s 0).trans rfl
      have HCl := Aside0.mk (Kd.C_below HR.out HB'.out.base)
      have HB3 := Aside0.mk (Below.refl wr.heap.size wr)
      obtain ⟨rl, hrl_⟩ : ∃ rl, Aside0 (rl = RB.length) := ⟨_, ⟨rfl⟩⟩
      obtain ⟨sl, hsl_⟩ : ∃ sl, Aside0 (sl = SB.length) := ⟨_, ⟨rfl⟩⟩
      rw [← hrl_.out] at HCr Hzr
      rw [← hsl_.out] at zs HCs
      have HBASE := Aside0.mk HB'.out.base
      clear hll hrl hsl hpn hfl hnl hFXl hTN2 hSMl
      go_region_held_law (fun w' => w'.cell? ⟨pc, 0, none⟩ = some (.int .i64 NB) ∧ w'.cell? ⟨ps, 0, none⟩ = some (.slice As sl c_s)) (first | exact ⟨xc, xs⟩ | exact ⟨yc, ys⟩ | exact ⟨zc, zs⟩) (first
        | (go_simp;go_at_call 44;refine (varint_Put.calls K3 (NB : Int) (put NB) _ HK3.out).mono ?_;rintro e w4 ⟨v0,rfl,hR,hb⟩;obtain ⟨A4,c4,e4⟩ := Kd.R_slice hR;obtain ⟨n4,hn4⟩ : ∃ n4,Aside0 (n4 = (put NB).length) := ⟨_,⟨rfl⟩⟩;rw [← hn4.out] at e4;subst e4;have hb' := below_step (below_drew1 HB3.out) hb;have HB4 := Aside0.mk hb';have HT4 := Aside0.mk (Kd.R_lower hR HB3.out.size);have yc : w4.cell? ⟨pc,0,none⟩ = some (.int .i64 NB) := (blk_cell (blk_below HB'.out.c hb') 0).trans rfl;have ys : w4.cell? ⟨ps,0,none⟩ = some (.slice As sl c_s) := (by rw [hsl_.out];exact (blk_cell (blk_below HB'.out.s hb') 0).trans rfl);clear hR hb hb')
        | (refine Kd.R_append_rows_step (Kd.int .u8) (w0 := wr) wr.heap.size (by rfl) (.tmp 51) (.tmp 52) 43 5 (.int .u8 0) 1 rfl Try.underlying43 info5 rfl (by decide) (by omega) (.slice A4 n4 c4) (put NB) SB As sl c_s (fun _ => True) (fun _ => False) (by rfl) (by rfl) ?aO ?aR (fun _ _ h => h) (fun _ h => h.elim) ?aF ?aB ?aS ?aL ?_;(case aO => exact HT4.out);(case aR => exact HCs.out _ HB4.out);(case aF => exact fun _ _ => trivial);(case aB => exact HB4.out);(case aS => exact HB4.out.size);(case aL => have := BD.out;have := hsl_.out;omega);intro v1 w5 hR hb hg hat;obtain ⟨A5,c5,e5⟩ := Kd.R_slice hR;obtain ⟨n5,hn5⟩ : ∃ n5,Aside0 (n5 = (put NB ++ SB).length) := ⟨_,⟨rfl⟩⟩;rw [← hn5.out] at e5;subst e5;have HB5 := Aside0.mk hb;have HT5 := Aside0.mk hR;have xc : w5.cell? ⟨pc,0,none⟩ = some (.int .i64 NB) := (blk_cell (blk_below HB'.out.c hb) 0).trans rfl;have xs : w5.cell? ⟨ps,0,none⟩ = some (.slice As sl c_s) := (by rw [hsl_.out];exact (blk_cell (blk_below HB'.out.s hb) 0).trans rfl);clear hR hb hg hat))
      clear zc zs yc ys xc xs
      go_wp2_with (first
        | (go_at_call 50;refine (table_norms.calls A c l w5 (Kd.C_below HCl.out HB5.out) HNE.out (by have := BD.out;omega)).mono ?_;rintro e w6 ⟨v0,rfl,hR,hb⟩;obtain ⟨A6,c6,e6⟩ := Kd.R_slice hR;subst e6;have HX6 := Aside0.mk (Kd.R_reads' hR).2;have hb' := below_step HB5.out hb;have HB6 := Aside0.mk hb';have HT5_6 := Aside0.mk (Kd.R_below HT5.out hb);clear hR hb hb')
        | (go_at_call 49;refine (bloom_Make.calls K0 _ _ (compB (l.map S28.f0)) flt _ HX6.out.2 HX6.out.1 HF.out.1).mono ?_;rintro e w7 ⟨v0,rfl,hR,hb⟩;obtain ⟨A7,c7,e7⟩ := Kd.R_slice hR;obtain ⟨n7,hn7⟩ : ∃ n7,Aside0 (n7 = (flt).length) := ⟨_,⟨rfl⟩⟩;rw [← hn7.out] at e7;subst e7;have hb' := below_step HB6.out hb;have HB7 := Aside0.mk hb';have HT7 := Aside0.mk (Kd.R_lower hR HB6.out.size);have HT5_7 := Aside0.mk (Kd.R_below HT5_6.out hb);clear hR hb hb')
        | ((with_reducible refine gate_builtin (b := .append) (xs := #[.tmp 54,.tmp 57]) rfl ?_);at_builtin;refine Kd.R_append_rows (Kd.int .u8) (w0 := wr) wr.heap.size rfl (.tmp 54) (.tmp 57) 43 5 (.int .u8 0) 1 rfl Try.underlying43 info5 rfl (by decide) (by omega) (.slice A5 n5 c5) (put NB ++ SB) (flt) A7 n7 c7 (fun _ => True) (fun _ => False) rfl rfl ?aO ?aR (fun _ _ h => h) (fun _ h => h.elim) ?aF ?aB ?aS ?aL ?_;(case aO => exact HT5_7.out);(case aR => exact (by have h_ := (Kd.R_reads' HT7.out);rw [h_.1];exact h_.2.2));(case aF => exact fun _ _ => trivial);(case aB => exact HB7.out);(case aS => exact (HB7.out).size);(case aL => have hb_ := BD.out;have h0_ := hn7.out;first | omega | (simp only [List.length_append,fix_length] at h0_ ⊢;omega));intro v1 w8 hR hb hg hat;obtain ⟨A8,c8,e8⟩ := Kd.R_slice hR;obtain ⟨n8,hn8⟩ : ∃ n8,Aside0 (n8 = (put NB ++ SB ++ flt).length) := ⟨_,⟨rfl⟩⟩;rw [← hn8.out] at e8;subst e8;have HB8 := Aside0.mk hb;have HT8 := Aside0.mk hR;have hn8' : n8 = TN := (by rw [hn8.out,HTN.out]);have hrN := Hzr.out _ HB8.out;have h8w : Aside0 (IntKind.u64.wrap (wrap64 (wrap64 (wrap64 (8 + (rl : Int)) + (n8 : Int)) + 12)) = ((8 + RB.length + TN + 12 : Nat) : Int)) := ⟨by have h1 := BD.out;have h2 := hrl_.out;(rw [wrap64_id (n := 8 + (rl : Int)) (by omega) (by omega),wrap64_id (n := 8 + (rl : Int) + (n8 : Int)) (by omega) (by omega),wrap64_id (by omega) (by omega),u64_id (by omega) (by omega)]);omega⟩;have hw32 : IntKind.u32.wrap (n8 : Int) = (TN : Int) := (by rw [u32_id (by omega) (by have := BD.out;omega)];omega);have HN8 := Aside0.mk hn8';clear hn8';have BD8 : Aside0 (n8 < 2000000 ∧ rl < 3000000) := ⟨by have := BD.out;have := hrl_.out;have := HN8.out;omega⟩;clear hR hb hg hat)
        | (go_at_call 51;rw [h8w.out];refine (varint_Put64.calls K6 _ FX _ HK6.out).mono ?_;rintro e w9 ⟨v0,rfl,hR,hb⟩;obtain ⟨A9,c9,e9⟩ := Kd.R_slice hR;obtain ⟨n9,hn9⟩ : ∃ n9,Aside0 (n9 = (FX).length) := ⟨_,⟨rfl⟩⟩;rw [← hn9.out] at e9;subst e9;have hb' := below_step HB8.out hb;have HB9 := Aside0.mk hb';have HT9 := Aside0.mk (Kd.R_lower hR HB8.out.size);have HT8_9 := Aside0.mk (Kd.R_below HT8.out hb);have hr9 := Hzr.out _ HB9.out;have HNE9 : Aside0 (∀ k,Value.ownBlock (.slice A8 n8 c8) = some k → Value.ownBlock (.slice A9 n9 c9) ≠ some k) := ⟨fun k hk e => by have h1 := Kd.R_lt HT8.out k hk;have h2 := Kd.R_base hR k e;omega⟩;clear hR hb hb')
        | ((with_reducible refine gate_builtin (b := .append) (xs := #[.tmp 68,.tmp 69]) rfl ?_);at_builtin;refine Kd.R_append_rows (Kd.int .u8) (w0 := wr) wr.heap.size rfl (.tmp 68) (.tmp 69) 43 5 (.int .u8 0) 1 rfl Try.underlying43 info5 rfl (by decide) (by omega) (.slice A9 n9 c9) (FX) (RB) Ar rl cr (fun _ => True) (fun _ => False) rfl rfl ?aO ?aR (fun _ _ h => h) (fun _ h => h.elim) ?aF ?aB ?aS ?aL ?_;(case aO => exact HT9.out);(case aR => exact HCr.out _ HB9.out);(case aF => exact fun _ _ => trivial);(case aB => exact HB9.out);(case aS => exact (HB9.out).size);(case aL => have hb_ := BD.out;have h0_ := hrl_.out;first | omega | (simp only [List.length_append,fix_length] at h0_ ⊢;omega));intro v1 w10 hR hb hg hat;obtain ⟨A10,c10,e10⟩ := Kd.R_slice hR;obtain ⟨n10,hn10⟩ : ∃ n10,Aside0 (n10 = (FX ++ RB).length) := ⟨_,⟨rfl⟩⟩;rw [← hn10.out] at e10;subst e10;have HB10 := Aside0.mk hb;have HT10 := Aside0.mk hR;have HT8_10 : Aside0 (Kd.R (Kd.int .u8) 5 w10 wr.heap.size (fun _ => True) (.slice A8 n8 c8) (put NB ++ SB ++ flt)) := ⟨u8_step HT8_9.out (fun k hk => hg.block k (Kd.R_lt HT8_9.out k hk) (fun e => HNE9.out k hk e.symm))⟩;clear hR hb hg hat)
        | ((with_reducible refine gate_builtin (b := .append) (xs := #[.tmp 70,.tmp 71]) rfl ?_);at_builtin;refine Kd.R_append_rows (Kd.int .u8) (w0 := wr) wr.heap.size rfl (.tmp 70) (.tmp 71) 43 5 (.int .u8 0) 1 rfl Try.underlying43 info5 rfl (by decide) (by omega) (.slice A10 n10 c10) (FX ++ RB) (put NB ++ SB ++ flt) A8 n8 c8 (fun _ => True) (fun _ => False) rfl rfl ?aO ?aR (fun _ _ h => h) (fun _ h => h.elim) ?aF ?aB ?aS ?aL ?_;(case aO => exact HT10.out);(case aR => exact (by have h_ := (Kd.R_reads' HT8_10.out);rw [h_.1];exact h_.2.2));(case aF => exact fun _ _ => trivial);(case aB => exact HB10.out);(case aS => exact (HB10.out).size);(case aL => have hb_ := BD.out;have h0_ := HN8.out;first | omega | (simp only [List.length_append,fix_length] at h0_ ⊢;omega));intro v1 w11 hR hb hg hat;obtain ⟨A11,c11,e11⟩ := Kd.R_slice hR;obtain ⟨n11,hn11⟩ : ∃ n11,Aside0 (n11 = (FX ++ RB ++ (put NB ++ SB ++ flt)).length) := ⟨_,⟨rfl⟩⟩;rw [← hn11.out] at e11;subst e11;have HB11 := Aside0.mk hb;have HT11 := Aside0.mk hR;clear hR hb hg hat)
        | (go_at_call 52;refine (varint_Put32.calls K7 _ (fix TN 4) _ HK7.out).mono ?_;rintro e w12 ⟨v0,rfl,hR,hb⟩;obtain ⟨A12,c12,e12⟩ := Kd.R_slice hR;obtain ⟨n12,hn12⟩ : ∃ n12,Aside0 (n12 = (fix TN 4).length) := ⟨_,⟨rfl⟩⟩;rw [← hn12.out] at e12;subst e12;have hb' := below_step HB11.out hb;have HB12 := Aside0.mk hb';have HT12 := Aside0.mk (Kd.R_lower hR HB11.out.size);have HT11_12 := Aside0.mk (Kd.R_below HT11.out hb);clear hR hb hb')
        | ((with_reducible refine gate_builtin (b := .append) (xs := #[.tmp 72,.tmp 76]) rfl ?_);at_builtin;refine Kd.R_append_rows (Kd.int .u8) (w0 := wr) wr.heap.size rfl (.tmp 72) (.tmp 76) 43 5 (.int .u8 0) 1 rfl Try.underlying43 info5 rfl (by decide) (by omega) (.slice A11 n11 c11) (FX ++ RB ++ (put NB ++ SB ++ flt)) (fix TN 4) A12 n12 c12 (fun _ => True) (fun _ => False) rfl rfl ?aO ?aR (fun _ _ h => h) (fun _ h => h.elim) ?aF ?aB ?aS ?aL ?_;(case aO => exact HT11_12.out);(case aR => exact (by have h_ := (Kd.R_reads' HT12.out);rw [h_.1];exact h_.2.2));(case aF => exact fun _ _ => trivial);(case aB => exact HB12.out);(case aS => exact (HB12.out).size);(case aL => have hb_ := BD.out;have h0_ := hn12.out;first | omega | (simp only [List.length_append,fix_length] at h0_ ⊢;omega));intro v1 w13 hR hb hg hat;obtain ⟨A13,c13,e13⟩ := Kd.R_slice hR;obtain ⟨n13,hn13⟩ : ∃ n13,Aside0 (n13 = (FX ++ RB ++ (put NB ++ SB ++ flt) ++ (fix TN 4)).length) := ⟨_,⟨rfl⟩⟩;rw [← hn13.out] at e13;subst e13;have HB13 := Aside0.mk hb;have HT13 := Aside0.mk hR;have HS13 : Aside0 (Calls Try.prog 53 #[.slice A13 n13 c13] w13 (fun e w' => e = .returned (.int .u32 (SM : Int)) ∧ Drawn0 w13 w')) := ⟨(by obtain ⟨q1,q2,q3⟩ := Kd.R_reads' hR;rw [q1] at q2 ⊢;exact crc_Sum.calls K8 A13 c13 (FX ++ RB ++ (put NB ++ SB ++ flt) ++ fix TN 4) (SM : Int) w13 q3 q2 HK8.out)⟩;clear hR hb hg hat)
        | (go_at_call 53;refine HS13.out.mono ?_;rintro e w14 ⟨rfl,hd⟩;obtain ⟨m14,hm14⟩ := hd.out;have HB14 : Aside0 (Below wr.heap.size wr w14) := ⟨(by rw [hm14];exact pw_below_drewN HB13.out m14)⟩;have HT13_14 : Aside0 (Kd.R (Kd.int .u8) 5 w14 wr.heap.size (fun _ => True) (.slice A13 n13 c13) (FX ++ RB ++ (put NB ++ SB ++ flt) ++ fix TN 4)) := ⟨(by rw [hm14];exact Kd.R_drewN HT13.out m14)⟩;clear hm14 hd)
        | (go_at_call 52;refine (varint_Put32.calls K9 _ (fix SM 4) _ HK9.out).mono ?_;rintro e w15 ⟨v0,rfl,hR,hb⟩;obtain ⟨A15,c15,e15⟩ := Kd.R_slice hR;obtain ⟨n15,hn15⟩ : ∃ n15,Aside0 (n15 = (fix SM 4).length) := ⟨_,⟨rfl⟩⟩;rw [← hn15.out] at e15;subst e15;have hb' := below_step HB14.out hb;have HB15 := Aside0.mk hb';have HT15 := Aside0.mk (Kd.R_lower hR HB14.out.size);have HT13_15 := Aside0.mk (Kd.R_below HT13_14.out hb);clear hR hb hb')
        | ((with_reducible refine gate_builtin (b := .append) (xs := #[.tmp 78,.tmp 81]) rfl ?_);at_builtin;refine Kd.R_append_rows (Kd.int .u8) (w0 := wr) wr.heap.size rfl (.tmp 78) (.tmp 81) 43 5 (.int .u8 0) 1 rfl Try.underlying43 info5 rfl (by decide) (by omega) (.slice A13 n13 c13) (FX ++ RB ++ (put NB ++ SB ++ flt) ++ fix TN 4) (fix SM 4) A15 n15 c15 (fun _ => True) (fun _ => False) rfl rfl ?aO ?aR (fun _ _ h => h) (fun _ h => h.elim) ?aF ?aB ?aS ?aL ?_;(case aO => exact HT13_15.out);(case aR => exact (by have h_ := (Kd.R_reads' HT15.out);rw [h_.1];exact h_.2.2));(case aF => exact fun _ _ => trivial);(case aB => exact HB15.out);(case aS => exact (HB15.out).size);(case aL => have hb_ := BD.out;have h0_ := hn15.out;first | omega | (simp only [List.length_append,fix_length] at h0_ ⊢;omega));intro v1 w16 hR hb hg hat;obtain ⟨A16,c16,e16⟩ := Kd.R_slice hR;obtain ⟨n16,hn16⟩ : ∃ n16,Aside0 (n16 = (FX ++ RB ++ (put NB ++ SB ++ flt) ++ fix TN 4 ++ (fix SM 4)).length) := ⟨_,⟨rfl⟩⟩;rw [← hn16.out] at e16;subst e16;have HB16 := Aside0.mk hb;have HT16 := Aside0.mk hR;clear hR hb hg hat)
        | (go_at_call 52;refine (varint_Put32.calls K10 _ (fix 1768842089 4) _ HK10.out).mono ?_;rintro e w17 ⟨v0,rfl,hR,hb⟩;obtain ⟨A17,c17,e17⟩ := Kd.R_slice hR;obtain ⟨n17,hn17⟩ : ∃ n17,Aside0 (n17 = (fix 1768842089 4).length) := ⟨_,⟨rfl⟩⟩;rw [← hn17.out] at e17;subst e17;have hb' := below_step HB16.out hb;have HB17 := Aside0.mk hb';have HT17 := Aside0.mk (Kd.R_lower hR HB16.out.size);have HT16_17 := Aside0.mk (Kd.R_below HT16.out hb);clear hR hb hb')
        | ((with_reducible refine gate_builtin (b := .append) (xs := #[.tmp 82,.tmp 83]) rfl ?_);at_builtin;refine Kd.R_append_rows (Kd.int .u8) (w0 := wr) wr.heap.size rfl (.tmp 82) (.tmp 83) 43 5 (.int .u8 0) 1 rfl Try.underlying43 info5 rfl (by decide) (by omega) (.slice A16 n16 c16) (FX ++ RB ++ (put NB ++ SB ++ flt) ++ fix TN 4 ++ fix SM 4) (fix 1768842089 4) A17 n17 c17 (fun _ => True) (fun _ => False) rfl rfl ?aO ?aR (fun _ _ h => h) (fun _ h => h.elim) ?aF ?aB ?aS ?aL ?_;(case aO => exact HT16_17.out);(case aR => exact (by have h_ := (Kd.R_reads' HT17.out);rw [h_.1];exact h_.2.2));(case aF => exact fun _ _ => trivial);(case aB => exact HB17.out);(case aS => exact (HB17.out).size);(case aL => have hb_ := BD.out;have h0_ := hn17.out;first | omega | (simp only [List.length_append,fix_length] at h0_ ⊢;omega));intro v1 w18 hR hb hg hat;obtain ⟨A18,c18,e18⟩ := Kd.R_slice hR;obtain ⟨n18,hn18⟩ : ∃ n18,Aside0 (n18 = (FX ++ RB ++ (put NB ++ SB ++ flt) ++ fix TN 4 ++ fix SM 4 ++ (fix 1768842089 4)).length) := ⟨_,⟨rfl⟩⟩;rw [← hn18.out] at e18;subst e18;have HB18 := Aside0.mk hb;have HT18 := Aside0.mk hR;clear hR hb hg hat))
      go_ret2
      exact ⟨_, rfl, by rw [HTB.out, ← HRES2.out, ← HSM.out]; exact Kd.R_lower HT18.out HBASE.out.size, HBASE.out.trans (HB18.out.mono HBASE.out.size)⟩
end Go.Proofs.Ytenmljkddhonmaa.MTbl

namespace Go.Proofs.Ytenmljkddhonmaa.MTbl
open Go.RowKit Go.Proofs.YtenmljkddhonmaaW.PrintWords Go.Proofs.YtenmljkddhonmaaW.PrintLast Go.Proofs.YtenmljkddhonmaaW.PrintMore
set_option linter.unusedVariables false
set_option linter.unusedSimpArgs false
/-- A reader that stands in a block of its own; what it reads came in. -/
def RdI (w0 w : World) (g : Nat) (l : List Int) (bad : Bool) : Prop := w0.heap.size ≤ g ∧ Below w0.heap.size w0 w ∧ ∃ A c,w.heap[g]? = some (.cells #[.slice A l.length c,.bool bad] 99 (0,0)) ∧ Kd.C (Kd.int .u8) w0 A l.length l ∧ l.length ≤ c
def stepF (l : List Int) (bad : Bool) (n : Int) : Option (List Int × Bool) :=
  if bad = true then some ([], true) else if n = 0 then some ([], true) else if 0 ≤ n ∧ n ≤ (l.length : Int) then some (l.drop n.toNat, false) else none
set_option maxHeartbeats 4000000 in
theorem varint_Reader_step.calls (g : Nat) (l : List Int) (bad : Bool) (n : Int) (l' : List Int) (bad' : Bool) (w0 w : World) (hI : RdI w0 w g l bad) (h : stepF l bad n = some (l', bad')) :
    Calls Try.prog 77 #[.pointer (some ⟨g, 0, none⟩), .int .i64 n] w fun e w' => e = .returned (.tuple #[]) ∧ RdI w0 w' g l' bad' ∧ KeepBut w w' g none := by
  obtain ⟨hg, hB, A, c, hC, hR, hlc⟩ := hI
  have HB := Aside0.mk hB
  have HR := Aside0.mk hR
  have HC := Aside0.mk hC
  clear hB hR hC
  have hc0 := (blk_cell HC.out 0).trans rfl
  have hc1 := (blk_cell HC.out 1).trans rfl
  have hf0 := blk_frozen HC.out 0
  have hf1 := blk_frozen HC.out 1
  unfold stepF at h
  cases bad with
  | true =>
    rw [if_pos rfl] at h
    simp only [Option.some.injEq, Prod.mk.injEq] at h
    obtain ⟨rfl, rfl⟩ := h
    go_enter Try.func77, Try.ntmps77
    go_wp2
    refine bodyPost_ret (results_none rfl _ _ _) rfl ?_
    refine ⟨rfl, ⟨hg, below_set (below_set HB.out hg) hg, none, 0, blk_set (blk_set HC.out 1 _) 0 _, Kd.C_nil _ _, Nat.le_refl _⟩, KeepBut.set_ (KeepBut.set_ (KeepBut.refl _ _ _) 1 _) 0 _⟩
  | false =>
    rw [if_neg (by simp)] at h
    by_cases h0 : n = 0
    · rw [if_pos h0] at h
      simp only [Option.some.injEq, Prod.mk.injEq] at h
      obtain ⟨rfl, rfl⟩ := h
      subst h0
      go_enter Try.func77, Try.ntmps77
      go_wp2
      refine bodyPost_ret (results_none rfl _ _ _) rfl ?_
      refine ⟨rfl, ⟨hg, below_set (below_set HB.out hg) hg, none, 0, blk_set (blk_set HC.out 1 _) 0 _, Kd.C_nil _ _, Nat.le_refl _⟩, KeepBut.set_ (KeepBut.set_ (KeepBut.refl _ _ _) 1 _) 0 _⟩
    · rw [if_neg h0] at h
      by_cases hn : 0 ≤ n ∧ n ≤ (l.length : Int)
      · rw [if_pos hn] at h
        simp only [Option.some.injEq, Prod.mk.injEq] at h
        obtain ⟨rfl, rfl⟩ := h
        have h0b : (n == 0) = false := beq_eq_false_iff_ne.mpr h0
        obtain ⟨i0, hi0, _, hsz, _⟩ := info_parts info5
        have hcut := cut_from (P := Try.prog) 43 5 .i64 Try.underlying43 hi0 1 hsz A l.length c n hn.1 hn.2
        have hr := Kd.C_drop (m := n.toNat) (c := c) HR.out (by omega) hlc
        have hsz1 : (Kd.int .u8).sz = 1 := rfl
        obtain ⟨A1, hA1⟩ : ∃ A1, Aside0 (A1 = (if c = n.toNat then A else A.map (·.add (n.toNat * 1)))) := ⟨_, ⟨rfl⟩⟩
        obtain ⟨c1, hc1_⟩ : ∃ c1, Aside0 (c1 = c - n.toNat) := ⟨_, ⟨rfl⟩⟩
        have hy : (l.drop n.toNat).length = l.length - n.toNat := List.length_drop
        rw [← hA1.out, ← hc1_.out, ← hy] at hcut
        have HR1 := Aside0.mk (show Kd.C (Kd.int .u8) w0 A1 (l.drop n.toNat).length (l.drop n.toNat) by rw [hA1.out]; exact hr)
        have HL1 : Aside0 ((l.drop n.toNat).length ≤ c1) := ⟨by rw [hc1_.out, hy]; omega⟩
        clear hr hy
        generalize l.drop n.toNat = l1 at hcut HR1 HL1
        go_enter Try.func77, Try.ntmps77
        go_wp2
        go_end0
        refine ⟨rfl, ⟨hg, below_set (below_set HB.out hg) hg, A1, c1, blk_set (blk_set HC.out 1 _) 0 _, HR1.out, HL1.out⟩, KeepBut.set_ (KeepBut.set_ (KeepBut.refl _ _ _) 1 _) 0 _⟩
      · rw [if_neg hn] at h; cases h
theorem RdI.below {w0 w w' : World} {g : Nat} {l : List Int} {bad : Bool} (h : RdI w0 w g l bad) (hb : Below w.heap.size w w') : RdI w0 w' g l bad := by
  obtain ⟨h1, h2, A, c, h3, h4, h5⟩ := h
  exact ⟨h1, below_step h2 hb, A, c, (hb.block g (blk_lt h3)).trans h3, h4, h5⟩
def numF (k : Nat) (l : List Int) (bad : Bool) (most : Int) : Option (Int × List Int × Bool) :=
  (varint_Get.f k l).bind fun p => (stepF l bad (if p.1 > IntKind.u64.wrap most then 0 else p.2)).bind fun q => some (if q.2 = true then 0 else wrap64 p.1, q.1, q.2)
set_option maxHeartbeats 4000000 in
theorem varint_Reader_Num.calls (k g : Nat) (l : List Int) (bad : Bool) (most v : Int) (l' : List Int) (bad' : Bool) (w0 w : World) (hI : RdI w0 w g l bad) (h : numF k l bad most = some (v,l',bad')) :
    Calls Try.prog 56 #[.pointer (some ⟨g, 0, none⟩), .int .i64 most] w fun e w' => e = .returned (.int .i64 v) ∧ RdI w0 w' g l' bad' ∧ KeepBut w w' g none := by
  unfold numF at h
  obtain ⟨⟨r1, r2⟩, hget, h⟩ := Option.bind_eq_some_iff.mp h
  obtain ⟨⟨l1, b1⟩, hst, h⟩ := Option.bind_eq_some_iff.mp h
  simp only [Option.some.injEq, Prod.mk.injEq] at h
  obtain ⟨rfl, rfl, rfl⟩ := h
  have HI := Aside0.mk hI
  obtain ⟨hg, hB, A, c, hC, hR, hlc⟩ := hI
  have HG := Aside0.mk hget
  have HS := Aside0.mk hst
  have HB := Aside0.mk hB
  have HR := Aside0.mk hR
  have hc0 := (blk_cell hC 0).trans rfl
  clear hB hR hC hget hst
  by_cases hgt : r1 > IntKind.u64.wrap most
  · have hgt1 : (IntKind.u64.wrap most < r1) = True := eq_true hgt
    have HS2 : Aside0 (stepF l bad 0 = some (l1, b1)) := ⟨by have h_ := HS.out; simp only [if_pos hgt] at h_; exact h_⟩
    clear HS hgt
    cases b1
    all_goals go_enter Try.func56, Try.ntmps56
    all_goals go_wp2_with (first | (go_at_call 76;refine (varint_Get.calls k A c l r1 r2 w (Kd.C_below HR.out HB.out) hlc HG.out).mono ?_;rintro e w2 ⟨rfl,hb⟩;have HI2 := Aside0.mk (HI.out.below hb);have HB2 := Aside0.mk hb;clear hb) | (go_at_call 77;refine (varint_Reader_step.calls g l bad 0 l1 _ w0 w2 HI2.out HS2.out).mono ?_;rintro e w3 ⟨rfl,hI3,hk3⟩;have HI3 := Aside0.mk hI3;have HK3 := Aside0.mk (KeepBut.trans (KeepBut.of_below HB2.out g none) hk3 (.inl rfl));obtain ⟨A3,c3,hC3⟩ := hI3.2.2;have hd1 := (blk_cell hC3.1 1).trans rfl;clear hI3 hk3 hC3))
    all_goals go_ret
    all_goals exact ⟨by first | rfl | simp, HI3.out, HK3.out⟩
  · have hgt1 : (IntKind.u64.wrap most < r1) = False := eq_false hgt
    have HS2 : Aside0 (stepF l bad r2 = some (l1, b1)) := ⟨by have h_ := HS.out; simp only [if_neg hgt] at h_; exact h_⟩
    clear HS hgt
    cases b1
    all_goals go_enter Try.func56, Try.ntmps56
    all_goals go_wp2_with (first | (go_at_call 76;refine (varint_Get.calls k A c l r1 r2 w (Kd.C_below HR.out HB.out) hlc HG.out).mono ?_;rintro e w2 ⟨rfl,hb⟩;have HI2 := Aside0.mk (HI.out.below hb);have HB2 := Aside0.mk hb;clear hb) | (go_at_call 77;refine (varint_Reader_step.calls g l bad r2 l1 _ w0 w2 HI2.out HS2.out).mono ?_;rintro e w3 ⟨rfl,hI3,hk3⟩;have HI3 := Aside0.mk hI3;have HK3 := Aside0.mk (KeepBut.trans (KeepBut.of_below HB2.out g none) hk3 (.inl rfl));obtain ⟨A3,c3,hC3⟩ := hI3.2.2;have hd1 := (blk_cell hC3.1 1).trans rfl;clear hI3 hk3 hC3))
    all_goals go_ret
    all_goals exact ⟨by first | rfl | simp, HI3.out, HK3.out⟩
end Go.Proofs.Ytenmljkddhonmaa.MTbl

namespace Go.Proofs.Ytenmljkddhonmaa.MTbl
open Go.RowKit Go.Proofs.Ytenmljkddhonmaa.QTbl Go.Proofs.YtenmljkddhonmaaW.PrintWords Go.Proofs.YtenmljkddhonmaaW.PrintLast Go.Proofs.YtenmljkddhonmaaW.PrintMore
set_option linter.unusedVariables false
set_option linter.unusedSimpArgs false
/-! What Open reads of a table's bytes -/
theorem numF_put {n : Nat} (hn : n ≤ 16777216) {rest : List Int} (hr : Bytes rest) : Ev (fun k => numF k (put n ++ rest) false 16777216) ((n : Int), rest, false) := by
  have hb := Bytes.append (put_bytes (n := n) (by omega)) hr
  have hg := Get_ev hb
  have hp := put_length10 (n := n) (by omega)
  have hp1 := put_pos (n := n) (by omega)
  unfold numF
  refine Ev.bind hg ?_
  rw [get_put (by omega)]
  have e1 : IntKind.u64.wrap 16777216 = 16777216 := by decide
  have e2 : stepF (put n ++ rest) false ((put n).length : Int) = some (rest, false) := by
    unfold stepF
    rw [if_neg (by simp), if_neg (by omega), if_pos ⟨by omega, by rw [List.length_append]; omega⟩, Int.toNat_natCast, List.drop_left]
  have e3 : ¬ (n : Int) > 16777216 := by omega
  simp only [e1, if_neg e3, e2]
  rw [Option.bind_some, if_neg (by simp), wrap64_id (by omega) (by omega)]
  exact Ev.now _
theorem e28_step {w w1 : World} {base : Nat} {ok : Nat → Prop} {v : Value} {xs : List S28} (h : Kd.R k28 28 w base ok v xs) (hm : ∀ k,v.ownBlock = some k → w1.heap[k]? = w.heap[k]?) : Kd.R k28 28 w1 base ok v xs :=
  Kd.R_reok rfl (Kd.R_step (Kd.R_tight rfl h) (fun k hk _ => hm k hk.symm)) h.1
theorem RdI.step {w0 w w1 : World} {g : Nat} {l : List Int} {bad : Bool} (h : RdI w0 w g l bad) (hb : Below w0.heap.size w0 w1) (hg : w1.heap[g]? = w.heap[g]?) : RdI w0 w1 g l bad := by
  obtain ⟨h1, h2, A, c, h3, h4, h5⟩ := h
  exact ⟨h1, hb, A, c, hg.trans h3, h4, h5⟩
theorem tblB_foot (l : List S28) (flt : List Int) : ((tblB l flt).drop ((tblB l flt).length - 12)).take 4 = fix (tailB l flt).length 4 := by
  have e : tblB l flt = (fix (8 + (rowsB l).length + (tailB l flt).length + 12) 8 ++ rowsB l ++ tailB l flt) ++ (fix (tailB l flt).length 4 ++ (fix (QCrc.sum (bodyB l flt)) 4 ++ fix 1768842089 4)) := by
    unfold tblB bodyB; simp only [List.append_assoc]
  have hl : (tblB l flt).length - 12 = (fix (8 + (rowsB l).length + (tailB l flt).length + 12) 8 ++ rowsB l ++ tailB l flt).length := by
    rw [tblB_length]; simp only [List.length_append, fix_length]; omega
  rw [hl, e, List.drop_left' rfl, List.take_left' (by rw [fix_length])]
theorem tblB_rows (l : List S28) (flt : List Int) : ((tblB l flt).drop 8).take (rowsB l).length = rowsB l := by
  have e : tblB l flt = fix (8 + (rowsB l).length + (tailB l flt).length + 12) 8 ++ (rowsB l ++ (tailB l flt ++ fix (tailB l flt).length 4 ++ fix (QCrc.sum (bodyB l flt)) 4 ++ fix 1768842089 4)) := by
    unfold tblB bodyB; simp only [List.append_assoc]
  rw [e, List.drop_left' (by rw [fix_length]), List.take_left' rfl]
theorem tblB_tail (l : List S28) (flt : List Int) : ((tblB l flt).drop (8 + (rowsB l).length)).take (tailB l flt).length = tailB l flt := by
  have e : tblB l flt = (fix (8 + (rowsB l).length + (tailB l flt).length + 12) 8 ++ rowsB l) ++ (tailB l flt ++ (fix (tailB l flt).length 4 ++ fix (QCrc.sum (bodyB l flt)) 4 ++ fix 1768842089 4)) := by
    unfold tblB bodyB; simp only [List.append_assoc]
  rw [e, List.drop_left' (by rw [List.length_append, fix_length]), List.take_left' rfl]
end Go.Proofs.Ytenmljkddhonmaa.MTbl

namespace Go.Proofs.Ytenmljkddhonmaa.MTbl
open Go.RowKit Go.Proofs.Ytenmljkddhonmaa.QTbl Go.Proofs.YtenmljkddhonmaaW.PrintWords Go.Proofs.YtenmljkddhonmaaW.PrintLast Go.Proofs.YtenmljkddhonmaaW.PrintMore
set_option linter.unusedVariables false
set_option linter.unusedSimpArgs false
theorem C_dropM {w : World} {A : Option Addr} {c m : Nat} {xs : List Int} (h : Kd.C (Kd.int .u8) w A xs.length xs) (hm : m ≤ xs.length) (hc : xs.length ≤ c) (hmc : m < c) : Kd.C (Kd.int .u8) w (Option.map (fun x => x.add m) A) (xs.drop m).length (xs.drop m) ∧ (xs.drop m).length ≤ c - m ∧ xs.length - m = (xs.drop m).length := by
  have h2 := Kd.C_drop (m := m) (c := c) h hm hc
  rw [if_neg (by omega)] at h2
  have hsz1 : (Kd.int .u8).sz = 1 := rfl
  simp only [hsz1, Nat.mul_one] at h2
  exact ⟨h2, by rw [List.length_drop]; omega, by rw [List.length_drop]⟩
theorem RdI.start {w W : World} (hw : Below w.heap.size w W) {A : Option Addr} {c n : Nat} {l : List Int} (hn : n = l.length) (hC : Kd.C (Kd.int .u8) w A l.length l) (hc : l.length ≤ c) : RdI w (W.alloc (.cells #[.slice A n c,.bool false] 99)) W.heap.size l false := by
  subst hn
  exact ⟨hw.size, below_alloc hw _, A, c, heap_new_ W _, hC, hc⟩
/-- Open's state behind i blocks. -/
structure OpS (w wr : World) (gr gt : Nat) (cs : List (List S28)) (flt : List Int) (i : Nat) (Ar : Option Addr) (nr cr : Nat) (vl : Value) : Prop where
  rd : RdI w wr gr ((cs.drop i).flatMap (fun c => put (blk c).length) ++ flt) false
  t : wr.heap[gt]? = some (.cells #[vl, .slice none 0 0, .int .i64 (i : Int)] 101 (0, 0))
  R : Kd.R k28 28 wr w.heap.size (fun _ => True) vl ((cs.take i).flatten)
  hg : w.heap.size ≤ gt
  ln : nr = ((cs.drop i).flatMap blk).length
  C : Kd.C (Kd.int .u8) w Ar ((cs.drop i).flatMap blk).length ((cs.drop i).flatMap blk)
  hc : ((cs.drop i).flatMap blk).length < cr
  by_ : Bytes ((cs.drop i).flatMap (fun c => put (blk c).length) ++ flt)
  bz : Bytes ((cs.drop i).flatMap blk)
  nb : nr < 4000000
set_option maxHeartbeats 4000000 in
set_option maxRecDepth 1000000 in
theorem table_Open_b.calls (A0 : Option Addr) (c0 : Nat) (b : List Int) (w : World) (hr : Kd.C (Kd.int .u8) w A0 b.length b) (hc : b.length ≤ c0) (hl2 : b.length < 4000000) (hb : Bytes b) (hf : firstOK b)
    (cs : List (List S28)) (flt RW TLs : List Int) (R T : Nat) (es : List S28) (hlen : b.length = 8 + R + T + 12) (hfoot : val256 ((b.drop (b.length - 12)).take 4) = T) (hrows : (b.drop 8).take R = RW) (htail : (b.drop (8 + R)).take T = TLs)
    (hRW : RW = cs.flatMap blk) (hTL : TLs = put cs.length ++ (cs.flatMap (fun c => put (blk c).length) ++ flt)) (hes : es = cs.flatten)
    (hblk : ∀ c ∈ cs,(blk c).length < 2400 ∧ readS (blk c) = some (c.map rowOf) ∧ (∀ x ∈ c,okB x) ∧ c.length ≤ 1000) (hfl : flt.length < 1000000) (hcn : cs.length ≤ 1000) (hel : es.length ≤ 1000) (k : Nat) (hm : table_may.f k es = some true) :
    Calls Try.prog 23 #[.slice A0 b.length c0] w fun e w' => ∃ g, e = .returned (.tuple #[.pointer (some ⟨g, 0, none⟩), .int .i64 0]) ∧ TabI w' g es flt cs.length ∧ Below w.heap.size w w' := by
  obtain ⟨hl, hq, h4, h8⟩ := hf
  have p1 : ((b.length : Int) < 20) = False := eq_false (by omega)
  obtain ⟨K, hK⟩ := Get64_ev hb (by omega)
  have HK := Aside0.mk (hK K (Nat.le_refl _))
  rw [hq] at HK
  obtain ⟨K4, hK4⟩ := Get32_ev (l := b.drop (b.length - 4)) (hb.drop _) (by rw [List.length_drop]; omega)
  have HK4 := Aside0.mk (hK4 K4 (Nat.le_refl _))
  rw [h4] at HK4
  obtain ⟨K8, hK8⟩ := Get32_ev (l := b.drop (b.length - 8)) (hb.drop _) (by rw [List.length_drop]; omega)
  have HK8 := Aside0.mk (hK8 K8 (Nat.le_refl _))
  rw [h8] at HK8
  obtain ⟨K12, hK12⟩ := Get32_ev (l := b.drop (b.length - 12)) (hb.drop _) (by rw [List.length_drop]; omega)
  have HK12 := Aside0.mk (hK12 K12 (Nat.le_refl _))
  rw [hfoot] at HK12
  obtain ⟨KS, hKS⟩ := QCrc.Sum_ev (l := b.take (b.length - 8)) (hb.take _) (by rw [List.length_take]; omega)
  have HKS := Aside0.mk (hKS KS (Nat.le_refl _))
  obtain ⟨s, hs⟩ : ∃ s, s = QCrc.sum (b.take (b.length - 8)) := ⟨_, rfl⟩
  rw [← hs] at HKS HK8
  have HR := Aside0.mk hr
  have hwr : IntKind.u64.wrap (b.length : Int) = (b.length : Int) := u64_id (by omega) (by omega)
  have hnb : (((b.length : Nat) : Int) != (b.length : Int)) = false := by simp
  have hsb : (((s : Nat) : Int) != (s : Int)) = false := by simp
  obtain ⟨hC4, xc4, xy4⟩ := C_dropN hr (m := b.length - 4) (by omega) hc
  have HC4 := Aside0.mk hC4
  have hc4 := Aside0.mk xc4
  have hy4 := Aside0.mk xy4
  obtain ⟨hC8, xc8, xy8⟩ := C_dropN hr (m := b.length - 8) (by omega) hc
  have HC8 := Aside0.mk hC8
  have hc8 := Aside0.mk xc8
  have hy8 := Aside0.mk xy8
  obtain ⟨hC12, xc12, xy12⟩ := C_dropN hr (m := b.length - 12) (by omega) hc
  have HC12 := Aside0.mk hC12
  have hc12 := Aside0.mk xc12
  have hy12 := Aside0.mk xy12
  have hyS : Aside0 (b.length - 8 = (b.take (b.length - 8)).length) := ⟨by rw [List.length_take]; omega⟩
  have HCS : Aside0 (Kd.C (Kd.int .u8) w A0 (b.take (b.length - 8)).length (b.take (b.length - 8))) := ⟨by rw [← hyS.out]; exact (C_takeI hr (m := b.length - 8) (by omega) hc).2⟩
  have hcS : Aside0 ((b.take (b.length - 8)).length ≤ c0) := ⟨by rw [List.length_take]; omega⟩
  have hTw : IntKind.i64.wrap (T : Int) = (T : Int) := (i64_w _).trans (wrap64_id (by omega) (by omega))
  have HALL := Aside0.mk (And.intro hrows (And.intro htail (And.intro hRW (And.intro hTL (And.intro hes (And.intro hblk (And.intro hcn (And.intro hel hm))))))))
  have HB := Aside0.mk hb
  have HLEN := Aside0.mk hlen
  have HC0 := Aside0.mk hc
  have hlT : T + 20 ≤ b.length := by omega
  clear hr hK hK4 hK8 hK12 hKS hC4 xc4 xy4 hC8 xc8 xy8 hC12 xc12 xy12 hs h4 h8 hq hfoot hrows htail hRW hTL hes hblk hcn hel hm hb hlen
  go_enter Try.func23, Try.ntmps23
  go_wp2
  go_quiet (first
    | (go_at_call 54;refine Calls.quiet_of (v := .int .u64 (b.length : Int)) ((varint_Get64.calls K A0 c0 b b.length _ ?hC hc HK.out).mono ?_);(case hC => exact Kd.C_drewN HR.out _);rintro e w' ⟨rfl,hd⟩;exact ⟨rfl,hd.out⟩)
    | (go_at_call 55;rw [hy4.out];refine Calls.quiet_of (v := .int .u32 (1768842089 : Int)) ((varint_Get32.calls K4 _ _ (b.drop (b.length - 4)) 1768842089 _ ?hC hc4.out HK4.out).mono ?_);(case hC => exact Kd.C_drewN HC4.out _);rintro e w' ⟨rfl,hd⟩;exact ⟨rfl,hd.out⟩)
    | (go_at_call 55;rw [hy8.out];refine Calls.quiet_of (v := .int .u32 (s : Int)) ((varint_Get32.calls K8 _ _ (b.drop (b.length - 8)) s _ ?hC hc8.out HK8.out).mono ?_);(case hC => exact Kd.C_drewN HC8.out _);rintro e w' ⟨rfl,hd⟩;exact ⟨rfl,hd.out⟩)
    | (go_at_call 53;rw [hyS.out];refine Calls.quiet_of (v := .int .u32 (s : Int)) ((crc_Sum.calls KS _ _ (b.take (b.length - 8)) s _ ?hC hcS.out HKS.out).mono ?_);(case hC => exact Kd.C_drewN HCS.out _);rintro e w' ⟨rfl,hd⟩;exact ⟨rfl,hd.out⟩))
  clear HK HK4 HK8 HKS HC4 hc4 hy4 HC8 hc8 hy8 hyS HCS hcS hsb hnb
  go_wp2_with (first
    | (go_at_call 55;rw [hy12.out];refine (varint_Get32.calls K12 _ _ (b.drop (b.length - 12)) T _ ?hC hc12.out HK12.out).mono ?_;(case hC => exact Kd.C_drewN HC12.out _);rintro e w' ⟨rfl,hd⟩;obtain ⟨m3,hm3⟩ := hd.out;rw [World.drewN_drewN] at hm3;subst hm3;clear hd))
  obtain ⟨hrows, htail, hRW, hTL, hes, hblk, hcn, hel, hm⟩ := HALL.out
  have hlen := HLEN.out
  have e1 : b.length - 12 - T = 8 + R := by omega
  have hTll : TLs.length = T := by rw [← htail, List.length_take, List.length_drop]; omega
  have hRl : RW.length = R := by rw [← hrows, List.length_take, List.length_drop]; omega
  obtain ⟨hCt, hct, hyt⟩ := C_dropM HR.out (m := b.length - 12 - T) (c := c0) (by omega) HC0.out (by have := HC0.out; omega)
  have hCt2 := Kd.C_take hCt (m := T) (by rw [List.length_drop]; omega)
  have hbT : Bytes TLs := by rw [← htail]; exact (HB.out.drop _).take _
  have hbR : Bytes RW := by rw [← hrows]; exact (HB.out.drop _).take _
  obtain ⟨hCr, hcr, hyr⟩ := C_dropM HR.out (m := 8) (c := c0) (by omega) HC0.out (by have := HC0.out; omega)
  have hCr2 := Kd.C_take hCr (m := R) (by rw [List.length_drop]; omega)
  rw [hrows] at hCr2
  rw [show (b.drop (b.length - 12 - T)).take T = TLs by rw [e1]; exact htail] at hCt2
  have HRD0 := RdI.start (w := w) (W := w.drewN (nq + m3)) (pw_below_drewN (Below.refl _ _) _) (c := c0 - (b.length - 12 - T)) (n := b.length - 12 - (b.length - 12 - T)) (by omega) hCt2 (by have := HC0.out;omega)
  have HRD1 := HRD0.below (below_alloc (Below.refl _ _) (.cells #[.slice none 0 0, .slice none 0 0, .int .i64 0] 101))
  have HT1 := heap_new_ ((w.drewN (nq + m3)).alloc (.cells #[.slice (Option.map (fun x => x.add (b.length - 12 - T)) A0) (b.length - 12 - (b.length - 12 - T)) (c0 - (b.length - 12 - T)),.bool false] 99)) (.cells #[.slice none 0 0,.slice none 0 0,.int .i64 0] 101)
  obtain ⟨w2,hw2⟩ : ∃ w2,w2 = ((w.drewN (nq + m3)).alloc (.cells #[.slice (Option.map (fun x => x.add (b.length - 12 - T)) A0) (b.length - 12 - (b.length - 12 - T)) (c0 - (b.length - 12 - T)),.bool false] 99)).alloc (.cells #[.slice none 0 0,.slice none 0 0,.int .i64 0] 101) := ⟨_,rfl⟩
  rw [World.size_alloc] at HT1
  rw [← hw2] at HRD1 HT1 ⊢
  have HRD : RdI w w2 w.heap.size TLs false := HRD1
  have HTT : w2.heap[w.heap.size + 1]? = some (.cells #[.slice none 0 0, .slice none 0 0, .int .i64 0] 101 (0, 0)) := HT1
  obtain ⟨Ar, hAr⟩ : ∃ Ar, Ar = Option.map (fun x => ({ block := x.block, off := x.off + 8 } : Addr)) A0 := ⟨_, rfl⟩
  have hCr3 : Kd.C (Kd.int .u8) w Ar RW.length RW := by rw [hAr]; exact hCr2
  rw [← hAr]
  clear HRD0 HRD1 HT1 hw2 hAr hCr2 hCt2 hCr hCt hct hyt hcr hyr
  have hTLn : Bytes (cs.flatMap (fun c => put (blk c).length) ++ flt) := by
    rw [hTL] at hbT; exact fun x hx => hbT x (List.mem_append_right _ hx)
  obtain ⟨KN, hKN⟩ := numF_put (n := cs.length) (by omega) hTLn
  have HKN := Aside0.mk (hKN KN (Nat.le_refl _))
  rw [← hTL] at HKN
  have hOp : ∀ w3 : World,RdI w w3 w.heap.size (cs.flatMap (fun c => put (blk c).length) ++ flt) false → KeepBut w2 w3 w.heap.size none → OpS w w3 w.heap.size (w.heap.size + 1) cs flt 0 Ar (b.length - 12 - T - 8) (c0 - 8) (.slice none 0 0) := fun w3 h1 h2 =>
    ⟨by rw [List.drop_zero];exact h1,(h2.2 _ (blk_lt HTT) (by omega) (by simp)).trans HTT,Kd.R_nil _ _ _ _ _,by omega,by rw [List.drop_zero,← hRW];omega,by rw [List.drop_zero,← hRW];exact hCr3,by rw [List.drop_zero,← hRW];have := HC0.out;omega,by rw [List.drop_zero];exact hTLn,by rw [List.drop_zero,← hRW];exact hbR,by omega⟩
  have HOP := Aside0.mk hOp
  have HRDA := Aside0.mk HRD
  have HCS2 := Aside0.mk (And.intro hes (And.intro hblk (And.intro hcn (And.intro hel hm))))
  clear hOp HRD HTT hCr3 hTLn hbT hbR hKN hes hblk hel hm hrows htail hRW hTL hTll hRl e1 hlen HALL hlT HK12 HC12 hc12 hy12 hTw
  refine (varint_Reader_Num.calls KN w.heap.size TLs false 16777216 (cs.length : Int) _ false w w2 HRDA.out HKN.out).mono ?_
  rintro e w3 ⟨rfl, h1, h2⟩
  have HO3 := Aside0.mk (HOP.out w3 h1 h2)
  clear h1 h2 HOP HKN HRDA
  go_wp2_with (fail)
  go_loopg [6,9] cs.length (fun kx s6 s9 wr => ∃ (i : Nat) (Ar : Option Addr) (nr cr : Nat) (vl : Value),s6 = .slice Ar nr cr ∧ s9 = .int .i64 ((cs.length - i : Nat) : Int) ∧ i ≤ cs.length ∧ cs.length - i ≤ kx ∧ Aside0 (OpS w wr w.heap.size (w.heap.size + 1) cs flt i Ar nr cr vl))
  case atStart => exact ⟨0, Ar, _, _, _, rfl, rfl, Nat.zero_le _, by omega, HO3⟩
  case round =>
    clear HO3
    obtain ⟨i, Ar, nr, cr, vl, rfl, rfl, hie, hik, HO⟩ := hrel
    have hne : ¬ w.heap.size = w.heap.size + 1 := by omega
    obtain ⟨_, _, A1, c1, hb1, hC1, hcc1⟩ := HO.out.rd
    have zb : wr.cell? ⟨w.heap.size, 1, none⟩ = some (.bool false) := (blk_cell hb1 1).trans rfl
    by_cases hi : i < cs.length
    · cases gk with
      | zero => omega
      | succ k1 =>
      have hdr : cs.drop i = cs[i] :: cs.drop (i + 1) := List.drop_eq_getElem_cons hi
      have hcm : cs[i] ∈ cs := List.getElem_mem hi
      obtain ⟨hq1, hq2, hq3, hq4⟩ := HCS2.out.2.1 _ hcm
      have htk : (cs.take (i + 1)).flatten = (cs.take i).flatten ++ cs[i] := by rw [List.take_succ_eq_append_getElem hi, List.flatten_append]; simp
      have HRDc := HO.out.rd
      have hby := HO.out.by_
      have hbz := HO.out.bz
      have hnr := HO.out.ln
      have hnb := HO.out.nb
      have hCc := HO.out.C
      have hcc := HO.out.hc
      rw [hdr, List.flatMap_cons] at HRDc hby hbz hnr hCc hcc
      have HT := Aside0.mk HO.out.t
      have HRv := Aside0.mk HO.out.R
      have HTK := Aside0.mk htk
      have hfl2 : (cs.flatten).length = ((cs.take i).flatten).length + ((cs.drop i).flatten).length := by
        rw [← List.length_append, ← List.flatten_append, List.take_append_drop]
      have HTL : Aside0 (((cs.take i).flatten).length ≤ 1000) := ⟨by
        have h1 := HCS2.out.2.2.2.1
        rw [HCS2.out.1] at h1
        omega⟩
      clear hfl2
      obtain ⟨bc, hbc⟩ : ∃ bc, bc = blk cs[i] := ⟨_, rfl⟩
      obtain ⟨RS, hRS⟩ : ∃ RS, RS = (cs.drop (i + 1)).flatMap blk := ⟨_, rfl⟩
      obtain ⟨PS, hPS⟩ : ∃ PS, PS = (cs.drop (i + 1)).flatMap (fun c => put (blk c).length) ++ flt := ⟨_, rfl⟩
      rw [List.append_assoc, ← hPS, ← hbc] at HRDc hby
      rw [← hRS, ← hbc] at hbz hnr hCc hcc
      rw [← hbc] at hq1 hq2
      have hPSb : Bytes PS := fun x hx => hby x (List.mem_append_right _ hx)
      have hRSb : Bytes RS := fun x hx => hbz x (List.mem_append_right _ hx)
      have hbcb : Bytes bc := fun x hx => hbz x (List.mem_append_left _ hx)
      obtain ⟨KN, hKN⟩ := numF_put (n := bc.length) (by omega) hPSb
      have HKN := Aside0.mk (hKN KN (Nat.le_refl _))
      have hlen : (bc ++ RS).length = bc.length + RS.length := List.length_append
      have hCb := (C_takeI hCc (c := cr) (m := bc.length) (by omega) (by omega)).2
      rw [List.take_left] at hCb
      obtain ⟨hCd, _, hyd⟩ := C_dropM hCc (c := cr) (m := bc.length) (by omega) (by omega) (by omega)
      rw [List.drop_left] at hCd hyd
      have HE := Aside0.mk (fun w' (h : Below w.heap.size w w') => table_entries.calls Ar cr bc cs[i] w' (Kd.C_below hCb h) (by omega) hbcb (by omega) hq2 hq3 (by omega))
      have HNEXT : Aside0 (∀ (w6 : World) (v1 : Value),RdI w w6 w.heap.size PS false → w6.heap[w.heap.size + 1]? = some (.cells #[v1,.slice none 0 0,.int .i64 ((i + 1 : Nat) : Int)] 101 (0,0)) → Kd.R k28 28 w6 w.heap.size (fun _ => True) v1 ((cs.take i).flatten ++ cs[i]) → OpS w w6 w.heap.size (w.heap.size + 1) cs flt (i + 1) (Option.map (fun x => x.add bc.length) Ar) (nr - bc.length) (cr - bc.length) v1) := ⟨fun w6 v1 h1 h2 h3 => ⟨by rw [← hPS];exact h1,h2,by rw [htk];exact h3,by omega,by rw [← hRS];omega,by rw [← hRS];exact hCd,by rw [← hRS];omega,by rw [← hPS];exact hPSb,by rw [← hRS];exact hRSb,by omega⟩⟩
      have HRDA := Aside0.mk HRDc
      have HNG := Aside0.mk (Kd.R_ne HO.out.R hb1 (by decide))
      have zt : wr.cell? ⟨w.heap.size + 1, 0, none⟩ = some vl := (blk_cell HT.out 0).trans rfl
      have p1 : ((0 : Int) < ((cs.length - i : Nat) : Int)) = True := eq_true (by omega)
      have p2 : ((nr : Int) < (bc.length : Int)) = False := eq_false (by omega)
      have p3 : ((0 : Int) ≤ (bc.length : Int)) = True := eq_true (by omega)
      have p4 : ((bc.length : Int) ≤ (nr : Int)) = True := eq_true (by omega)
      have hnrl : bc.length ≤ nr := by omega
      have hncr : nr < cr := by omega
      have hbcl : bc.length < 2400 := hq1
      have HQ4 := Aside0.mk hq4
      clear hdr hcm hq1 hq2 hq3 hq4 htk HRDc hby hbz hnr hCc hcc hbc hRS hPS hPSb hRSb hbcb hKN hlen hCb hCd hyd HO hC1 hcc1 hb1
      go_wp2_with (first
        | (go_at_call 56;refine (varint_Reader_Num.calls KN w.heap.size _ false 16777216 (bc.length : Int) _ false w wr HRDA.out HKN.out).mono ?_;rintro e w4 ⟨rfl,h1,h2⟩;have HR4 := Aside0.mk h1;have HT4 := Aside0.mk ((h2.2 _ (blk_lt HT.out) (by omega) (by simp)).trans HT.out);have HV4 := Aside0.mk (e28_step HRv.out (fun k hk => h2.2 k (Kd.R_lt HRv.out k hk) (fun e => HNG.out (by rw [hk,e])) (by simp)));clear h1 h2)
        | (go_at_call 57;refine (HE.out w4 HR4.out.2.1).mono ?_;rintro e w5 ⟨v5,rfl,h1,h2⟩;obtain ⟨A5,c5,e5⟩ := Kd.R_slice h1;obtain ⟨n5,hn5⟩ : ∃ n5,Aside0 (n5 = (cs[i]).length) := ⟨_,⟨rfl⟩⟩;rw [← hn5.out] at e5;subst e5;have HX5 := Aside0.mk h1;have HR5 := Aside0.mk (HR4.out.below h2);have HT5 := Aside0.mk (blk_below HT4.out h2);have HV5 := Aside0.mk (Kd.R_below HV4.out h2);have ht5 : w5.cell? ⟨w.heap.size + 1,0,none⟩ = some vl := (blk_cell (blk_below HT4.out h2) 0).trans rfl;clear h1 h2))
      go_region_law (first
        | (refine Kd.R_append_rows_step k28 (w0 := w) w.heap.size (by rfl) (.tmp 107) (.tmp 108) 24 28 (.agg #[(.string ⟨#[]⟩),(.int .i64 0),(.int .i64 0),(.string ⟨#[]⟩),(.string ⟨#[]⟩)]) 64 rfl Try.underlying24 info28 rfl (by decide) (by omega) vl ((cs.take i).flatten) cs[i] A5 n5 c5 (fun _ => True) (fun _ => False) (by rfl) (by rfl) ?aO ?aR (fun _ _ h => h) (fun _ h => h.elim) ?aF ?aB ?aS ?aL ?_;(case aO => exact Kd.R_drew HV5.out);(case aR => exact Kd.C_drew (by have h_ := Kd.R_reads' HX5.out;rw [h_.1];exact h_.2.2));(case aF => exact fun _ _ => trivial);(case aB => exact below_drew1 HR5.out.2.1);(case aS => exact (below_drew1 HR5.out.2.1).size);(case aL => have h1_ := HTL.out;have h2_ := hn5.out;have h3_ := HQ4.out;omega);intro v1 w6 ho hb hg hat;obtain ⟨A6,c6,e6⟩ := Kd.R_slice ho;obtain ⟨n6,hn6⟩ : ∃ n6,Aside0 (n6 = ((cs.take i).flatten ++ cs[i]).length) := ⟨_,⟨rfl⟩⟩;rw [← hn6.out] at e6;subst e6;have HV6 := Aside0.mk ho;have HB6 := Aside0.mk hb;have t6 := (hg.block (w.heap.size + 1) (blk_lt HT5.out) (fun e => (Kd.R_ne HV5.out HT5.out (by decide)) e)).trans HT5.out;have HT6 := Aside0.mk t6;have HR6 := Aside0.mk (HR5.out.step hb (hg.block w.heap.size (by have := blk_lt HT5.out;show w.heap.size < w5.heap.size;omega) HNG.out));have y6 : w6.cell? ⟨w.heap.size + 1,0,none⟩ = some vl := (blk_cell t6 0).trans rfl;have y62 : w6.cell? ⟨w.heap.size + 1,2,none⟩ = some (.int .i64 (i : Int)) := (blk_cell t6 2).trans rfl;have f60 := blk_frozen t6 0;have f62 := blk_frozen t6 2;clear ho hb hg hat t6))
      all_goals go_wp2
      all_goals go_roundg k1
      case measure => omega
      case rel =>
        refine ⟨i + 1, _, _, _, .slice A6 n6 c6, rfl, by rw [show ((cs.length - i : Nat) : Int) - 1 = ((cs.length - (i + 1) : Nat) : Int) by omega], by omega, by omega, ⟨HNEXT.out _ _ ?_ ?_ ?_⟩⟩
        · exact HR6.out.step (below_set0 (below_set0 HB6.out (by omega)) (by omega)) (by rw [Below.heap_setCell _ _ _ _ (by show w.heap.size ≠ w.heap.size + 1;omega),Below.heap_setCell _ _ _ _ (by show w.heap.size ≠ w.heap.size + 1;omega)])
        · rw [show ((i : Int) + 1) = ((i + 1 : Nat) : Int) by omega]
          exact blk_put (blk_put HT6.out 0 _ rfl) 2 _ rfl
        · have hne6 : some (w.heap.size + 1) ≠ Value.ownBlock (.slice A6 n6 c6) := Kd.R_ne HV6.out HT6.out (by decide)
          exact e28_step HV6.out (fun k hk => by rw [Below.heap_setCell _ _ _ _ (fun e => hne6 (by rw [hk, e])), Below.heap_setCell _ _ _ _ (fun e => hne6 (by rw [hk, e]))])
    · have hie2 : i = cs.length := by omega
      subst hie2
      have HT := Aside0.mk HO.out.t
      have HRv := HO.out.R
      have HRD := HO.out.rd
      have hnr := HO.out.ln
      rw [List.drop_length] at HRD hnr
      rw [List.flatMap_nil, List.nil_append] at HRD
      rw [List.flatMap_nil, List.length_nil] at hnr
      subst hnr
      rw [List.take_length, ← HCS2.out.1] at HRv
      obtain ⟨Av, cv, ev⟩ := Kd.R_slice HRv
      subst ev
      have HV := Aside0.mk (Kd.R_reads' HRv).2
      obtain ⟨h1_, HBW, A1, c1, hb1, hC1, hcc1⟩ := HRD
      have HBW := Aside0.mk HBW
      have z0 : wr.cell? ⟨w.heap.size, 0, none⟩ = some (.slice A1 flt.length c1) := (blk_cell hb1 0).trans rfl
      have y0 : wr.cell? ⟨w.heap.size + 1, 0, none⟩ = some (.slice Av es.length cv) := (blk_cell HT.out 0).trans rfl
      have y1 : wr.cell? ⟨w.heap.size + 1, 1, none⟩ = some (.slice none 0 0) := (blk_cell HT.out 1).trans rfl
      have fy1 := blk_frozen HT.out 1
      have HB1 := Aside0.mk hb1
      have HCL := Aside0.mk (And.intro (Kd.C_below hC1 HBW.out) hcc1)
      have hm := Aside0.mk HCS2.out.2.2.2.2
      have z1 : wr.cell? ⟨w.heap.size, 1, none⟩ = some (.bool false) := zb
      have HRV := Aside0.mk HRv
      clear HO h1_ hb1 hC1 hcc1 HRv
      go_wp2_with (first
        | (go_at_call 58;refine (cloneB.calls A1 c1 flt wr HCL.out.1 HCL.out.2 (by omega)).mono ?_;rintro e w4 ⟨v0,rfl,hR,hb⟩;obtain ⟨A4,c4,e4⟩ := Kd.R_slice hR;obtain ⟨n4,hn4⟩ : ∃ n4,Aside0 (n4 = flt.length) := ⟨_,⟨rfl⟩⟩;rw [← hn4.out] at e4;subst e4;have HF4 := Aside0.mk hR;have HB4 := Aside0.mk (below_step HBW.out hb);have HT4 := Aside0.mk (blk_below HT.out hb);have HV4 := Aside0.mk (Kd.R_below HRV.out hb);have q0 : w4.cell? ⟨w.heap.size + 1,0,none⟩ = some (.slice Av es.length cv) := (blk_cell HT4.out 0).trans rfl;have q1 : w4.cell? ⟨w.heap.size + 1,1,none⟩ = some (.slice none 0 0) := (blk_cell HT4.out 1).trans rfl;have fq1 := blk_frozen HT4.out 1;have qz : w4.cell? ⟨w.heap.size,1,none⟩ = some (.bool false) := (blk_cell (blk_below HB1.out hb) 1).trans rfl;clear hR hb)
        | (go_at_call 40;have hX5 := (e28_step (w1 := w4.setCell ⟨w.heap.size + 1,1,none⟩ (.slice A4 n4 c4)) HV4.out (fun k hk => Below.heap_setCell _ _ _ _ (fun e => (Kd.R_ne HV4.out HT4.out (by decide)) (by rw [hk,e]))));have hX6 := (Kd.R_reads' hX5);refine (table_may.calls k Av cv es true _ hX6.2.2 hX6.2.1 hm.out).mono ?_;rintro e w5 ⟨rfl,hb⟩;have HX5 := Aside0.mk hX5;have HB5 := Aside0.mk hb;clear hX5 hX6 hb))
      go_ret2
      refine ⟨w.heap.size + 1, rfl, ⟨Av, cv, A4, c4, ?_, ?_, ?_, ?_, ?_⟩, ?_⟩
      · rw [← hn4.out]; exact blk_below (blk_put HT4.out 1 _ rfl) HB5.out
      · exact (Kd.R_reads' (Kd.R_below HX5.out HB5.out)).2.2
      · exact (Kd.R_reads' HX5.out).2.1
      · have hne4 : some (w.heap.size + 1) ≠ Value.ownBlock (.slice A4 n4 c4) := Kd.R_ne HF4.out HT4.out (by decide)
        have h_ := Kd.R_reads' (Kd.R_below (u8_step (w1 := w4.setCell ⟨w.heap.size + 1,1,none⟩ (.slice A4 n4 c4)) HF4.out (fun k hk => Below.heap_setCell _ _ _ _ (fun e => hne4 (by rw [hk,e])))) HB5.out)
        exact h_.2.2
      · rw [← hn4.out]; exact (Kd.R_reads' HF4.out).2.1
      · exact below_step (below_set0 HB4.out (by omega)) HB5.out
end Go.Proofs.Ytenmljkddhonmaa.MTbl

namespace Go.Proofs.Ytenmljkddhonmaa.MTbl
open Go.RowKit Go.Proofs.Ytenmljkddhonmaa.QTbl Go.Proofs.YtenmljkddhonmaaW.PrintWords Go.Proofs.YtenmljkddhonmaaW.PrintLast Go.Proofs.YtenmljkddhonmaaW.PrintMore
set_option linter.unusedVariables false
set_option linter.unusedSimpArgs false
/-! Built and opened -/
theorem FltOK_ofB (es : List S28) (flt : List Int) (h : ∀ s : ByteArray, s.size ≤ maxLen → ∃ rb, Ev (fun k => bloom_May.f k flt s) rb ∧ (s ∈ compB (es.map S28.f0) → rb = true)) : FltOK flt es := by
  intro s hs
  obtain ⟨rb, h1, h2⟩ := h s hs
  refine ⟨rb, h1, fun hf x hx he => ?_⟩
  have hxs : x.f0 = s := by rw [Lib.toList_data, Lib.toList_data] at he; exact ByteArray.ext (Array.toList_inj.1 he)
  rw [h2 (mem_compB.2 (List.mem_map.2 ⟨x, hx, hxs⟩))] at hf
  cases hf
structure Tab (l : List S28) (flt : List Int) : Prop where
  ok : FltOK flt l
  fl : flt.length ≤ 2 * l.length + 20
  bytes : Bytes (tblB l flt)
  first : firstOK (tblB l flt)
  len : (tblB l flt).length < 4000000
  build : ∀ (A : Option Addr) (c : Nat) (w : World),Kd.C k28 w A l.length l → l.length ≤ c → Calls Try.prog 22 #[.slice A l.length c] w fun e w' => ∃ v,e = .returned (.tuple #[v,.int .i64 0]) ∧ Kd.R (Kd.int .u8) 5 w' w.heap.size (fun _ => True) v (tblB l flt) ∧ Below w.heap.size w w'
  opn : ∀ (A : Option Addr) (c : Nat) (w : World),Kd.C (Kd.int .u8) w A (tblB l flt).length (tblB l flt) → (tblB l flt).length ≤ c → Calls Try.prog 23 #[.slice A (tblB l flt).length c] w fun e w' => ∃ g,e = .returned (.tuple #[.pointer (some ⟨g,0,none⟩),.int .i64 0]) ∧ TabI w' g l flt (cutB [] l).length ∧ Below w.heap.size w w'
theorem Tab.of {l : List S28} (hne : l ≠ []) (hl : l.length ≤ 1000) (hs : l.Pairwise srtR) (ho : ∀ x ∈ l, okB x) (hM : mayL none l = true) : ∃ flt, Tab l flt := by
  obtain ⟨flt, e1, e2, e3, e4⟩ := flt_ok (compB (l.map S28.f0)) (by have := compB_length (l.map S28.f0); rw [List.length_map] at this; omega) (fun x hx => by
    obtain ⟨y, hy, rfl⟩ := List.mem_map.1 (mem_compB.1 hx)
    have := (ho y hy).1.2.2; omega)
  have hcl : (compB (l.map S28.f0)).length ≤ l.length := by have := compB_length (l.map S28.f0); rwa [List.length_map] at this
  have hfl : flt.length ≤ 2 * l.length + 20 := by
    rw [e2]
    unfold sizeM
    split <;> omega
  obtain ⟨K0, hK0⟩ := e1
  obtain ⟨k, hk⟩ := may_ev l (by omega)
  have hpos : 0 < l.length := List.length_pos_iff.2 hne
  have hm : table_may.f k l = some true := by
    have h1 : table_may.f k l = some (mayL none l && decide ((l.length : Int) > 0)) := hk k (Nat.le_refl _)
    rw [h1, hM, decide_eq_true (by omega)]; rfl
  obtain ⟨hb1, hb2⟩ := tblB_bytes hne hl ho e3
  have hrl := rowsB_length hl ho
  have hcn := cutB_length_le l []
  have hsz : (sizesB l).length ≤ 10 * (cutB [] l).length := by
    have := flatMap_length_le (fun c => put (blk c).length) 10 (cutB [] l) (fun c hc => by have := blk_length ho hc; exact put_length10 (by omega))
    unfold sizesB; omega
  have hpl := put_length10 (n := (cutB [] l).length) (by omega)
  have htl : (tailB l flt).length = (put (cutB [] l).length).length + (sizesB l).length + flt.length := by unfold tailB; simp only [List.length_append]
  have hlen := tblB_length l flt
  have hblk : ∀ c ∈ cutB [] l, (blk c).length < 2400 ∧ readS (blk c) = some (c.map rowOf) ∧ (∀ x ∈ c, okB x) ∧ c.length ≤ 1000 := fun c hc => by
    have hcm : ∀ x ∈ c, okB x := fun x hx => ho x (cutB_mem hne hc hx)
    have hcl : c.length ≤ 1000 := by
      have h1 := cutB_flat l [] hne
      rw [List.nil_append] at h1
      have h2 : c.length ≤ ((cutB [] l).flatten).length := (List.sublist_flatten_of_mem hc).length_le
      rw [h1] at h2
      omega
    exact ⟨blk_length ho hc, blk_read (cutB_sorted hne hs hc) hcm hcl, hcm, hcl⟩
  have hfirst := tblB_first (flt := flt) hb1 (by omega)
  refine ⟨flt, FltOK_ofB l flt e4, hfl, hb2, hfirst, by omega, fun A c w hr hc => ?_, fun A c w hr hc => ?_⟩
  · exact table_Build.calls k A c l w hr hc hm hne hl hs ho flt K0 (hK0 K0 (Nat.le_refl _)) (by omega) e3
  · have hfoot : val256 (((tblB l flt).drop ((tblB l flt).length - 12)).take 4) = (tailB l flt).length := by
      rw [tblB_foot, val256_fix]
      exact Nat.mod_eq_of_lt (by omega)
    exact table_Open_b.calls A c (tblB l flt) w hr hc (by omega) hb2 hfirst (cutB [] l) flt (rowsB l) (tailB l flt) _ _ l hlen hfoot (tblB_rows l flt) (tblB_tail l flt) rfl (by unfold tailB sizesB;rw [List.append_assoc]) (by have := cutB_flat l [] hne;rw [List.nil_append] at this;exact this.symm) hblk (by omega) (by omega) hl k hm
end Go.Proofs.Ytenmljkddhonmaa.MTbl

namespace Go.Proofs.Ytenmljkddhonmaa.MTbl
open Go.RowKit Go.Proofs.Ytenmljkddhonmaa.QTbl Go.Proofs.YtenmljkddhonmaaW.PrintWords Go.Proofs.YtenmljkddhonmaaW.PrintLast Go.Proofs.YtenmljkddhonmaaW.PrintMore
set_option linter.unusedVariables false
set_option linter.unusedSimpArgs false
theorem flatten_get {α : Type} (sz : Nat) : ∀ (css : List (List α)) (j i : Nat) (c : List α), (∀ c ∈ css, c.length = sz) → css[j]? = some c → i < sz → css.flatten[j * sz + i]? = c[i]?
  | [], j, i, c, _, h, _ => by cases h
  | d :: css, 0, i, c, hs, h, hi => by
    injection h with h
    subst h
    rw [List.flatten_cons, Nat.zero_mul, Nat.zero_add, List.getElem?_append_left (by rw [hs d List.mem_cons_self]; exact hi)]
  | d :: css, j + 1, i, c, hs, h, hi => by
    have hd := hs d List.mem_cons_self
    rw [List.flatten_cons, List.getElem?_append_right (by rw [hd, Nat.succ_mul]; omega), hd, show (j + 1) * sz + i - sz = j * sz + i by rw [Nat.succ_mul]; omega]
    exact flatten_get sz css j i c (fun c hc => hs c (List.mem_cons_of_mem _ hc)) (by simpa using h) hi
/-- A row that was laid by a literal. -/
theorem lits_C {α : Type} {d : Kd α} {w : World} {g t : Nat} {cs : Array Value} (css : List (List Value)) {xs : List α} (h : w.heap[g]? = some (.cells cs t (0,0))) (he : cs = css.flatten.toArray) (hl : css.length = xs.length) (hs : ∀ c ∈ css,c.length = d.sz) (hK : ∀ (j : Nat) p c,xs[j]? = some p → css[j]? = some c → d.K w p c) (hm : xs.length ≤ 9223372036854775807) : d.C w (some ⟨g,0,none⟩) xs.length xs := by
  refine ⟨rfl, hm, fun _ => ⟨⟨g, 0, none⟩, rfl, fun j p hj => ?_⟩⟩
  have hjl := (List.getElem?_eq_some_iff.1 hj).1
  have hc := List.getElem?_eq_getElem (l := css) (i := j) (by omega)
  refine ⟨css[j]'(by omega), hs _ (List.getElem_mem _), hK j p _ hj hc, fun i u hu => ?_⟩
  rw [add_plain, blk_cell h, he, List.getElem?_toArray]
  rw [flatten_get d.sz css j i _ hs hc (by have := (List.getElem?_eq_some_iff.1 hu).1; rw [hs _ (List.getElem_mem _)] at this; exact this)]
  exact hu
def c5 (x : S28) : List Value := [.string x.f0, .int .i64 x.f1, .int .i64 x.f2, .string x.f3, .string x.f4]
theorem lits28 {w : World} {g t : Nat} {cs : Array Value} {xs : List S28} (h : w.heap[g]? = some (.cells cs t (0,0))) (he : cs = (xs.map c5).flatten.toArray) (hm : xs.length ≤ 9223372036854775807) : Kd.C k28 w (some ⟨g,0,none⟩) xs.length xs := by
  refine lits_C (xs.map c5) h he (by simp) (fun c hc => ?_) (fun j p c hj hc => ?_) hm
  · obtain ⟨x, _, rfl⟩ := List.mem_map.1 hc
    rfl
  · rw [List.getElem?_map, hj] at hc
    injection hc with hc
    subst hc
    exact k28_mk w p
def eB : S28 := ⟨⟨#[97]⟩, 2, 1, ⟨#[97]⟩, ⟨#[118]⟩⟩
theorem eB_ok : okB eB := ⟨⟨⟨by decide, by decide⟩, .inr rfl, by decide⟩, by decide, by decide⟩
theorem eB_find : eB = (rfind ⟨#[97]⟩ 9 [eB]).getD z28 := by kernel_rfl
theorem eB_some : true = (rfind ⟨#[97]⟩ 9 [eB]).isSome := by kernel_rfl
theorem eB_tab : ∃ flt, Tab [eB] flt := Tab.of (by simp) (by simp) (List.pairwise_singleton _ _) (fun x hx => by rw [List.mem_singleton.1 hx]; exact eB_ok) (by decide +kernel)
theorem may_nil : ∃ k, table_may.f k [] = some false := by
  obtain ⟨k, hk⟩ := may_ev [] (by simp)
  exact ⟨k, by have h1 := hk k (Nat.le_refl _); exact h1⟩
theorem eB_get (w3 : World) (g : Nat) (flt : List Int) (bl : Nat) (hI : TabI w3 g [eB] flt bl) (hF : FltOK flt [eB]) : Calls Try.prog 24 #[.pointer (some ⟨g,0,none⟩),.string ⟨#[97]⟩,.int .i64 9] w3 fun e w' => e = .returned (.tuple #[.agg #[.string ⟨#[97]⟩,.int .i64 2,.int .i64 1,.string ⟨#[97]⟩,.string ⟨#[118]⟩],.bool true,.int .i64 0]) ∧ Below w3.heap.size w3 w' :=
  table_GetS.calls w3 g [eB] flt bl ⟨#[97]⟩ 9 eB true hI (by decide) (List.pairwise_singleton _ _) hF (by decide) eB_find eB_some
theorem eB_nil (k : Nat) (hk : table_may.f k [] = some false) (w : World) : Calls Try.prog 22 #[.slice none 0 0] w fun e w' => e = .returned (.tuple #[.slice none 0 0,.int .i64 12]) ∧ Below w.heap.size w w' :=
  table_Build_no.calls k none 0 [] w (Kd.C_nil _ _) (Nat.le_refl _) hk
theorem eB_len (w : World) (g : Nat) (flt : List Int) (bl : Nat) (hI : TabI w g [eB] flt bl) : Calls Try.prog 26 #[.pointer (some ⟨g,0,none⟩)] w fun e w' => e = .returned (.int .i64 1) ∧ w' = w := table_Len.calls w g [eB] flt bl hI
theorem eB_blocks (w : World) (g : Nat) (flt : List Int) (hI : TabI w g [eB] flt 1) : Calls Try.prog 27 #[.pointer (some ⟨g,0,none⟩)] w fun e w' => e = .returned (.int .i64 1) ∧ w' = w := table_Blocks.calls w g [eB] flt 1 hI
theorem beg_data : ∃ (tb flt : List Int) (l : List S28),
    (∀ w : World,Calls Try.prog 22 #[.slice (some ⟨w.heap.size,0,none⟩) 1 1] (w.alloc (.cells #[.string ⟨#[97]⟩,.int .i64 2,.int .i64 1,.string ⟨#[97]⟩,.string ⟨#[118]⟩] 28)) fun e w' => ∃ v,e = .returned (.tuple #[v,.int .i64 0]) ∧ Kd.R (Kd.int .u8) 5 w' w.heap.size (fun _ => True) v tb ∧ Below w.heap.size w w')
    ∧ (∀ (A : Option Addr) (c : Nat) (w : World),Kd.C (Kd.int .u8) w A tb.length tb → tb.length ≤ c → Calls Try.prog 23 #[.slice A tb.length c] w fun e w' => ∃ g,e = .returned (.tuple #[.pointer (some ⟨g,0,none⟩),.int .i64 0]) ∧ TabI w' g l flt 1 ∧ Below w.heap.size w w')
    ∧ (∀ (w3 : World) (g : Nat),TabI w3 g l flt 1 → Calls Try.prog 24 #[.pointer (some ⟨g,0,none⟩),.string ⟨#[97]⟩,.int .i64 9] w3 fun e w' => e = .returned (.tuple #[.agg #[.string ⟨#[97]⟩,.int .i64 2,.int .i64 1,.string ⟨#[97]⟩,.string ⟨#[118]⟩],.bool true,.int .i64 0]) ∧ Below w3.heap.size w3 w')
    ∧ (∀ (w : World), Calls Try.prog 22 #[.slice none 0 0] w fun e w' => e = .returned (.tuple #[.slice none 0 0, .int .i64 12]) ∧ Below w.heap.size w w')
    ∧ (∀ (w : World) (g : Nat), TabI w g l flt 1 → Calls Try.prog 26 #[.pointer (some ⟨g, 0, none⟩)] w fun e w' => e = .returned (.int .i64 1) ∧ w' = w)
    ∧ (∀ (w : World) (g : Nat), TabI w g l flt 1 → Calls Try.prog 27 #[.pointer (some ⟨g, 0, none⟩)] w fun e w' => e = .returned (.int .i64 1) ∧ w' = w) := by
  obtain ⟨flt, HT⟩ := eB_tab
  obtain ⟨k, hk⟩ := may_nil
  have hbl : (cutB [] [eB]).length = 1 := by simp [cutB]
  refine ⟨tblB [eB] flt,flt,[eB],fun w => ?_,fun A c w h1 h2 => ?_,fun w3 g hI => eB_get w3 g flt 1 hI HT.ok,fun w => eB_nil k hk w,fun w g hI => eB_len w g flt 1 hI,fun w g hI => eB_blocks w g flt hI⟩
  · refine (HT.build (some ⟨w.heap.size,0,none⟩) 1 (w.alloc (.cells #[.string ⟨#[97]⟩,.int .i64 2,.int .i64 1,.string ⟨#[97]⟩,.string ⟨#[118]⟩] 28)) (lits28 (xs := [eB]) (heap_new_ w _) rfl (by decide)) (by decide)).mono ?_
    rintro e w' ⟨v, rfl, h1, h2⟩
    exact ⟨v, rfl, Kd.R_lower h1 (by simp), below_step (below_alloc (Below.refl _ w) _) h2⟩
  · have := HT.opn A c w h1 h2
    rw [hbl] at this
    exact this
set_option maxHeartbeats 1000000 in
set_option maxRecDepth 1000000 in
theorem law_begun.calls (w : World) : Calls Try.prog 20 #[] w fun e w' => e = .returned (.bool true) ∧ Below w.heap.size w w' := by
  have hu28 := Try.underlying28
  obtain ⟨tb, flt, l, hbuild, hopen, hget, hnil, hlen, hblocks⟩ := beg_data
  have HD1 := Aside0.mk hbuild
  have HD2 := Aside0.mk hopen
  have HD3 := Aside0.mk hget
  have HD4 := Aside0.mk hnil
  have HD5 := Aside0.mk hlen
  have HD6 := Aside0.mk hblocks
  clear hbuild hopen hget hnil hlen hblocks
  go_enter Try.func20, Try.ntmps20
  go_wp2_with (first
    | (go_at_call 22;(with_reducible refine (HD1.out w).mono ?_);rintro e w2 ⟨v,rfl,hR,hb⟩;obtain ⟨A2,c2,e2⟩ := Kd.R_slice hR;subst e2;have hX := Kd.R_reads' hR;have HO2 := Aside0.mk (HD2.out A2 c2 w2 hX.2.2 hX.2.1);generalize tb.length = n2 at *;have HB2 := Aside0.mk hb;clear hR hb hX)
    | (go_at_call 23; refine HO2.out.mono ?_; rintro e w3 ⟨g, rfl, hI, hb⟩; have HI3 := Aside0.mk hI; have HB3 := Aside0.mk (below_step HB2.out hb); clear hI hb)
    | (go_at_call 24; refine (HD3.out w3 g HI3.out).mono ?_; rintro e w4 ⟨rfl, hb⟩; have HI4 := Aside0.mk (HI3.out.below hb); have HB4 := Aside0.mk (below_step HB3.out hb); clear hb)
    | (go_at_call 22;(with_reducible refine (HD4.out _).mono ?_);rintro e w5 ⟨rfl,hb⟩;have hx5 := blk_below (heap_new_ w4 (.cells #[.string ⟨#[97]⟩,.int .i64 2,.int .i64 1,.string ⟨#[97]⟩,.string ⟨#[118]⟩] 28)) hb;have y4 : w5.cell? ⟨w4.heap.size,4,none⟩ = some (.string ⟨#[118]⟩) := (blk_cell hx5 4).trans rfl;have HI5 := Aside0.mk ((HI4.out.below (below_alloc (Below.refl _ w4) _)).below hb);have HB5 := Aside0.mk (below_step (below_alloc HB4.out _) hb);clear hb hx5)
    | (go_at_call 26; refine (HD5.out _ g HI5.out).mono ?_; rintro e w6 ⟨rfl, rfl⟩)
    | (go_at_call 27; refine (HD6.out _ g HI5.out).mono ?_; rintro e w6 ⟨rfl, rfl⟩))
  go_ret
  exact ⟨rfl, HB5.out⟩
end Go.Proofs.Ytenmljkddhonmaa.MTbl

namespace Go.Proofs.Ytenmljkddhonmaa.MTbl
open Go.RowKit Go.Proofs.Ytenmljkddhonmaa.QTbl Go.Proofs.YtenmljkddhonmaaW.PrintWords Go.Proofs.YtenmljkddhonmaaW.PrintLast Go.Proofs.YtenmljkddhonmaaW.PrintMore
set_option linter.unusedVariables false
set_option linter.unusedSimpArgs false
theorem open_nil.calls (w : World) : Calls Try.prog 23 #[.slice none 0 0] w fun e w' => e = .returned (.tuple #[.pointer none,.int .i64 8]) ∧ Below w.heap.size w w' := table_Open_short.calls none 0 [] w (by decide)
set_option maxHeartbeats 1000000 in
set_option maxRecDepth 1000000 in
theorem incipitlaw17_TableNone.calls (w : World) : Calls Try.prog 11 #[] w fun e w' => e = .returned (.bool true) ∧ Below w.heap.size w w' := by
  have hu28 := Try.underlying28
  have HB0 := Aside0.mk (Below.refl w.heap.size w)
  go_enter Try.func11, Try.ntmps11
  go_wp2_with (first
    | (go_at_call 24;(with_reducible refine (table_Get_nil.calls _ _ _).mono ?_);rintro e w2 ⟨rfl,hb⟩;have HB2 := Aside0.mk (below_alloc (below_step HB0.out hb) (.cells #[.string ⟨#[]⟩,.int .i64 0,.int .i64 0,.string ⟨#[]⟩,.string ⟨#[]⟩] 28));clear hb)
    | (go_at_call 31; (with_reducible refine (table_All_nil.calls _).mono ?_); rintro e w3 ⟨rfl, rfl⟩)
    | (go_at_call 28; (with_reducible refine (table_From_nil.calls _ _).mono ?_); rintro e w4 ⟨rfl, hb⟩; have HB4 := Aside0.mk (below_step HB2.out hb); clear hb)
    | (go_at_call 23; (with_reducible refine (open_nil.calls _).mono ?_); rintro e w5 ⟨rfl, hb⟩; have HB5 := Aside0.mk (below_step HB4.out hb); clear hb)
    | (go_at_call 20; (with_reducible refine (law_begun.calls _).mono ?_); rintro e w6 ⟨rfl, hb⟩; have HB6 := Aside0.mk (below_step HB5.out hb); clear hb)
    | (go_at_call 26; (with_reducible refine (table_Len_nil.calls _).mono ?_); rintro e w7 ⟨rfl, rfl⟩)
    | (go_at_call 27; (with_reducible refine (table_Blocks_nil.calls _).mono ?_); rintro e w8 ⟨rfl, rfl⟩))
  go_ret
  exact ⟨rfl, HB6.out⟩
end Go.Proofs.Ytenmljkddhonmaa.MTbl
