import Derived.Test.YtenmljkddhonmaaY11
import Derived.Deep.RegionHeldLaw
import Derived.Test.YtenmljkddhonmaaY8
namespace Go.Proofs.Ytenmljkddhonmaa.MTbl
open Go.RowKit Go.Proofs.Ytenmljkddhonmaa.QTbl Go.Proofs.YtenmljkddhonmaaW.PrintWords Go.Proofs.YtenmljkddhonmaaW.PrintLast Go.Proofs.YtenmljkddhonmaaW.PrintMore
set_option linter.unusedVariables false
set_option linter.unusedSimpArgs false
set_option maxHeartbeats 2000000 in
set_option maxRecDepth 1000000 in
/-- Entries that may not stand in a table. -/
theorem table_Build_no.calls (k : Nat) (A : Option Addr) (c : Nat) (l : List S28) (w : World) (hr : Kd.C k28 w A l.length l) (hc : l.length ≤ c) (hm : table_may.f k l = some false) :
  Calls Try.prog 22 #[.slice A l.length c] w fun e w'=>e = .returned (.tuple #[.slice none 0 0,.int .i64 12])∧Below w.heap.size w w':=by
 have HQ := Aside0.mk (table_may.calls k A c l false w hr hc hm)
 clear hr hc hm
 go_enter Try.func22, Try.ntmps22
 go_wp2_with (go_at_call 40; refine HQ.out.mono ?_; rintro e w1 ⟨rfl, hb⟩; have HB := Aside0.mk hb; clear hb)
 go_ret2
 exact ⟨rfl, HB.out⟩
theorem BuS.start {w w1 w2 : World} {g : Nat} (hb1 : Below w.heap.size w w1)
  (hN : BldN (((w1.alloc (.cells #[.slice none 0 0] 43)).alloc (.cells #[.slice none 0 0] 43)).alloc (.cells #[.int .i64 0] 3)).heap.size w2 g St0)
  (hb2 : Below (((w1.alloc (.cells #[.slice none 0 0] 43)).alloc (.cells #[.slice none 0 0] 43)).alloc (.cells #[.int .i64 0] 3)).heap.size (((w1.alloc (.cells #[.slice none 0 0] 43)).alloc (.cells #[.slice none 0 0] 43)).alloc (.cells #[.int .i64 0] 3)) w2) :
  BuS w (w2.alloc (.cells #[.pointer (some ⟨g,0,none⟩)] 82)) w2.heap.size w1.heap.size (w1.heap.size + 1) (w1.heap.size + 1 + 1) (w1.heap.size + 3) g (.slice none 0 0) (.slice none 0 0) St0 [] [] 0∧w.heap.size ≤ w1.heap.size + 3:=by
 have r1 := heap_new_ w1 (.cells #[.slice none 0 0] 43)
 have s1 := heap_new_ (w1.alloc (.cells #[.slice none 0 0] 43)) (.cells #[.slice none 0 0] 43)
 have c1:=heap_new_ ((w1.alloc (.cells #[.slice none 0 0] 43)).alloc (.cells #[.slice none 0 0] 43)) (.cells #[.int .i64 0] 3)
 have hW : (((w1.alloc (.cells #[.slice none 0 0] 43)).alloc (.cells #[.slice none 0 0] 43)).alloc (.cells #[.int .i64 0] 3)).heap.size = w1.heap.size + 3:=by simp [World.size_alloc]
 have e1 : (w1.alloc (.cells #[.slice none 0 0] 43)).heap.size = w1.heap.size + 1 := by simp
 have e2 : ((w1.alloc (.cells #[.slice none 0 0] 43)).alloc (.cells #[.slice none 0 0] 43)).heap.size = w1.heap.size + 1 + 1:=by simp
 have r2 := blk_alloc (blk_alloc r1 (.cells #[.slice none 0 0] 43)) (.cells #[.int .i64 0] 3)
 have s2 := blk_alloc s1 (.cells #[.int .i64 0] 3)
 have hBW : Below w.heap.size w (((w1.alloc (.cells #[.slice none 0 0] 43)).alloc (.cells #[.slice none 0 0] 43)).alloc (.cells #[.int .i64 0] 3)):=below_alloc (below_alloc (below_alloc hb1 _) _) _
 rw [e1] at s2
 rw [e2] at c1
 have hlw := hb1.size
 generalize (((w1.alloc (.cells #[.slice none 0 0] 43)).alloc (.cells #[.slice none 0 0] 43)).alloc (.cells #[.int .i64 0] 3)) = W at *
 have r3 := blk_alloc (blk_below r2 hb2) (.cells #[.pointer (some ⟨g, 0, none⟩)] 82)
 have s3 := blk_alloc (blk_below s2 hb2) (.cells #[.pointer (some ⟨g, 0, none⟩)] 82)
 have c3 := blk_alloc (blk_below c1 hb2) (.cells #[.pointer (some ⟨g, 0, none⟩)] 82)
 have b3 := heap_new_ w2 (.cells #[.pointer (some ⟨g, 0, none⟩)] 82)
 have hs2 := hb2.size
 refine ⟨⟨below_alloc (hBW.trans (hb2.mono (by omega))) _,b3,r3,s3,c3,by omega,⟨by omega,by omega⟩,⟨by omega,by omega⟩,⟨by omega,by omega⟩,by omega,Kd.R_nil _ _ _ _ _,Kd.R_nil _ _ _ _ _,fun k hk=>by simp [Value.ownBlock] at hk,?_⟩,by omega⟩
 rw [← hW]
 exact hN.below (below_alloc (Below.refl _ _) _)
set_option maxHeartbeats 4000000 in
set_option maxRecDepth 1000000 in
theorem table_Build.calls (k : Nat) (A : Option Addr) (c : Nat) (l : List S28) (w : World) (hr : Kd.C k28 w A l.length l) (hc : l.length ≤ c) (hm : table_may.f k l = some true) (hne : l ≠ []) (hl : l.length ≤ 1000) (hs : l.Pairwise srtR) (ho : ∀ x ∈ l,okB x)
  (flt : List Int) (K0 : Nat) (hflt : bloom_Make.f K0 (compB (l.map S28.f0)) = some flt) (hfl : flt.length < 1000000) (hfb : Bytes flt) :
  Calls Try.prog 22 #[.slice A l.length c] w fun e w'=>∃ v,e = .returned (.tuple #[v,.int .i64 0])∧Kd.R (Kd.int .u8) 5 w' w.heap.size (fun _=>True) v (tblB l flt)∧Below w.heap.size w w':=by
 have hu28 := Try.underlying28
 have hu43 := Try.underlying43
 have HQ := Aside0.mk (table_may.calls k A c l true w hr hc hm)
 have HR := Aside0.mk hr
 have HC := Aside0.mk hc
 have HL := Aside0.mk hl
 have HNE := Aside0.mk hne
 have HS := Aside0.mk hs
 have HO := Aside0.mk ho
 have HF := Aside0.mk (And.intro hflt (And.intro hfl hfb))
 clear hr hc hm hl hs ho hflt hfl hfb hne
 go_enter Try.func22, Try.ntmps22
 go_wp2_with (first
  | (go_at_call 40; refine HQ.out.mono ?_; rintro e w1 ⟨rfl, hb⟩; have HB1 := Aside0.mk hb; clear hb)
  | (go_at_call 41;refine (newN.calls _).mono ?_;rintro e w2 ⟨g,rfl,hN,hb⟩;have HN:=Aside0.mk hN;have HB2:=Aside0.mk hb;clear hN hb))
 obtain ⟨BS, BN⟩ := BuS.start HB1.out HN.out HB2.out
 have BS := Aside0.mk BS
 clear HN HB2 HB1 HQ
 generalize w1.heap.size + 1 + 1 = pc at *
 generalize w1.heap.size + 1 = ps at *
 generalize w1.heap.size + 3 = n0 at *
 generalize w1.heap.size = pr at *
 generalize w2.heap.size = pb at *
 generalize w2.alloc (.cells #[.pointer (some ⟨g, 0, none⟩)] 82) = w3 at *
 go_loopg [20] l.length (fun kx s20 wr=>∃ (i : Nat) (cs : List (List S28)) (cur : List S28) (n g : Nat) (vr vs : Value),s20 = .int .i64 i∧i ≤ l.length∧l.length - i ≤ kx∧Aside0 (w.heap.size ≤ n)∧Aside0 (BInv l i cs cur)∧Aside0 (BuS w wr pb pr ps pc n g vr vs (stOf cur) (cs.flatMap blk) (cs.flatMap (fun c=>put (blk c).length)) cs.length))
 case atStart => exact ⟨0, [], [], n0, g, _, _, rfl, Nat.zero_le _, by omega, ⟨BN⟩, ⟨BInv.start l⟩, BS⟩
 case round =>
  clear BN BS
  obtain ⟨i, cs, cur, n, g, vr, vs, rfl, hie, hik, HN, HI, HB⟩ := hrel
  by_cases hi : i < l.length
  ·cases gk with
   | zero => omega
   | succ k1 =>
   have HVr := Kd.C_below HR.out HB.out.base
   obtain ⟨ad, rfl, g0, g1, g2, g3, g4⟩ := at_T28 HVr (i : Int) (by omega) (by omega)
   have hx : rd_T28 l (i : Int) = l[i] := by
    unfold rd_T28; rw [Int.toNat_natCast, List.getD_eq_getElem?_getD, List.getElem?_eq_getElem hi]; rfl
   rw [hx] at g0 g1 g2 g3 g4
   rw [Int.toNat_natCast] at g0
   simp only [Int.toNat_natCast] at g1 g2 g3 g4
   clear HVr hx
   have hxo := HO.out _ (List.getElem_mem hi)
   have hll := HL.out
   have HAB := Aside0.mk (HI.out.addB hi)
   have HCUT := Aside0.mk (HI.out.cut_ hi)
   have HGO := Aside0.mk (HI.out.go_ HS.out HO.out hi)
   have HBD := Aside0.mk (HI.out.bounds (by omega))
   have HRL := Aside0.mk (HI.out.rows_le HO.out)
   have HCN := Aside0.mk HI.out.cnt
   have HLA := Aside0.mk HI.out.last
   obtain ⟨K1, hK1⟩ := key_ev l[i] hxo.1
   have HK := Aside0.mk (hK1 K1 (Nat.le_refl _))
   obtain ⟨K2, hK2⟩ := Text_ev (s := (l[i]).f3) (by have := hxo.2.1; omega)
   have HT := Aside0.mk (hK2 K2 (Nat.le_refl _))
   have HX := Aside0.mk hxo
   clear hK1 hK2 hxo
   generalize l[i] = x at *
   have p1 : ((i : Int) < (l.length : Int)) = True := eq_true (by omega)
   have p3 : (i < l.length) = True := eq_true hi
   go_wp2_with (fail)
   have HE:=Aside0.mk (heap_new_ wr (.cells #[.string x.f0,.int .i64 x.f1,.int .i64 x.f2,.string x.f3,.string x.f4] 28))
   have HBa:=Aside0.mk (HB.out.below (below_alloc (Below.refl _ wr) (.cells #[.string x.f0,.int .i64 x.f1,.int .i64 x.f2,.string x.f3,.string x.f4] 28)))
   clear HB
   generalize wr.alloc (.cells #[.string x.f0,.int .i64 x.f1,.int .i64 x.f2,.string x.f3,.string x.f4] 28) = wa at *
   generalize wr.heap.size = ea at *
   have z0 : wa.cell? ⟨ea, 0, none⟩ = some (.string x.f0) := (blk_cell HE.out 0).trans rfl
   have z1 : wa.cell? ⟨ea, 1, none⟩ = some (.int .i64 x.f1) := (blk_cell HE.out 1).trans rfl
   have z2 : wa.cell? ⟨ea, 2, none⟩ = some (.int .i64 x.f2) := (blk_cell HE.out 2).trans rfl
   have z3 : wa.cell? ⟨ea, 3, none⟩ = some (.string x.f3) := (blk_cell HE.out 3).trans rfl
   have z4 : wa.cell? ⟨ea, 4, none⟩ = some (.string x.f4) := (blk_cell HE.out 4).trans rfl
   have zb : wa.cell? ⟨pb, 0, none⟩ = some (.pointer (some ⟨g, 0, none⟩)) := (blk_cell HBa.out.b 0).trans rfl
   clear g0 g1 g2 g3 g4
   obtain ⟨sT, hsT⟩ : ∃ sT, Aside0 (sT = strOfNums (put x.f3.size ++ bytesOf x.f3)) := ⟨_, ⟨rfl⟩⟩
   have hval : sT ++ x.f4 = valS x := by rw [hsT.out]; rfl
   have hcat : (9223372036854775807 < sT.size + x.f4.size) = False:=eq_false (by have:=valS_le HX.out;rw [← hval,ByteArray.size_append] at this;omega)
   go_region_held_law (fun w'=>w'.cell? ⟨pb,0,none⟩ = some (.pointer (some ⟨g,0,none⟩))∧w'.cell? ⟨ea,0,none⟩ = some (.string x.f0)∧w'.cell? ⟨ea,1,none⟩ = some (.int .i64 x.f1)∧w'.cell? ⟨ea,2,none⟩ = some (.int .i64 x.f2)∧w'.cell? ⟨ea,3,none⟩ = some (.string x.f3)∧w'.cell? ⟨ea,4,none⟩ = some (.string x.f4)) (first | exact ⟨vb,v0,v1,v2,v3,v4⟩ | exact ⟨ub,u0,u1,u2,u3,u4⟩ | exact ⟨yb,y0,y1,y2,y3,y4⟩ | exact ⟨zb,z0,z1,z2,z3,z4⟩) (first
    | (go_simp;go_at_call 46;refine (table_key.calls K1 x.f0 x.f1 x.f2 x.f3 x.f4 (keyS x) _ HK.out).mono ?_;rintro e w4 ⟨rfl,hb⟩;have hb4:=below_step (below_drew1 (Below.refl _ wa)) hb;have I4:=Aside0.mk (HBa.out.below hb4);have e4:=blk_below HE.out hb4;have HE4:=Aside0.mk e4;have y0 : w4.cell? ⟨ea,0,none⟩ = some (.string x.f0):=(blk_cell e4 0).trans rfl;have y1 : w4.cell? ⟨ea,1,none⟩ = some (.int .i64 x.f1):=(blk_cell e4 1).trans rfl;have y2 : w4.cell? ⟨ea,2,none⟩ = some (.int .i64 x.f2):=(blk_cell e4 2).trans rfl;have y3 : w4.cell? ⟨ea,3,none⟩ = some (.string x.f3):=(blk_cell e4 3).trans rfl;have y4 : w4.cell? ⟨ea,4,none⟩ = some (.string x.f4):=(blk_cell e4 4).trans rfl;have yb : w4.cell? ⟨pb,0,none⟩ = some (.pointer (some ⟨g,0,none⟩)):=(blk_cell I4.out.b 0).trans rfl;clear hb hb4 e4)
    | (go_simp;go_at_call 47;refine (varint_Text.calls K2 x.f3 _ _ HT.out).mono ?_;rintro e w5 ⟨v0,rfl,hR,hb5⟩;have I5:=Aside0.mk (I4.out.below hb5);have e5:=blk_below HE4.out hb5;have HE5:=Aside0.mk e5;have u0 : w5.cell? ⟨ea,0,none⟩ = some (.string x.f0):=(blk_cell e5 0).trans rfl;have u1 : w5.cell? ⟨ea,1,none⟩ = some (.int .i64 x.f1):=(blk_cell e5 1).trans rfl;have u2 : w5.cell? ⟨ea,2,none⟩ = some (.int .i64 x.f2):=(blk_cell e5 2).trans rfl;have u3 : w5.cell? ⟨ea,3,none⟩ = some (.string x.f3):=(blk_cell e5 3).trans rfl;have u4 : w5.cell? ⟨ea,4,none⟩ = some (.string x.f4):=(blk_cell e5 4).trans rfl;have ub : w5.cell? ⟨pb,0,none⟩ = some (.pointer (some ⟨g,0,none⟩)):=(blk_cell I5.out.b 0).trans rfl;have hks:=own_string (P:=Try.prog) Try.underlying43 Try.underlying5 Try.underlying9 (Kd.own_of_R hR);rw [← hsT.out] at hks;clear hR hb5 e5)
    | (go_simp;go_at_call 45;refine (addN.calls n w5 g (stOf cur) (keyS x) (valS x) I5.out.bld (by have:=HBD.out;omega) (by have:=HLA.out;omega) (by have:=keyS_le HX.out.1;omega) (by have:=valS_le HX.out;omega) (by have:=HBD.out;omega) (by have:=HBD.out;omega) HAB.out).mono ?_;rintro e w6 ⟨rfl,hN6,hb6,hO6⟩;have I6:=Aside0.mk (BuS.add I5.out HN.out hN6 hb6 hO6);have e6:=hO6.2 ea _ 28 (by obtain ⟨_,_,_,_,hgb,_⟩:=I5.out.bld;exact blk_ne HE5.out hgb (by decide)) (by decide) HE5.out;have v0 : w6.cell? ⟨ea,0,none⟩ = some (.string x.f0):=(blk_cell e6 0).trans rfl;have v1 : w6.cell? ⟨ea,1,none⟩ = some (.int .i64 x.f1):=(blk_cell e6 1).trans rfl;have v2 : w6.cell? ⟨ea,2,none⟩ = some (.int .i64 x.f2):=(blk_cell e6 2).trans rfl;have v3 : w6.cell? ⟨ea,3,none⟩ = some (.string x.f3):=(blk_cell e6 3).trans rfl;have v4 : w6.cell? ⟨ea,4,none⟩ = some (.string x.f4):=(blk_cell e6 4).trans rfl;have vb : w6.cell? ⟨pb,0,none⟩ = some (.pointer (some ⟨g,0,none⟩)):=(blk_cell I6.out.b 0).trans rfl;clear hN6 hb6 hO6 e6))
   have I7 : Aside0 (BuS w w6 pb pr ps pc n g vr vs (stOf (cur ++ [x])) (cs.flatMap blk) (cs.flatMap (fun c=>put (blk c).length)) cs.length):=⟨by rw [stOf_snoc];exact I6.out⟩
   clear I6 I5 I4 HBa HE HE4 HE5 hks hval hcat hsT HK HT HAB HLA z0 z1 z2 z3 z4 zb y0 y1 y2 y3 y4 yb u0 u1 u2 u3 u4 ub v1 v2 v3 v4 vb
   obtain ⟨sz, hsz⟩ : ∃ sz, Aside0 (sz = szB (stOf (cur ++ [x]))) := ⟨_, ⟨rfl⟩⟩
   have HB2 : Aside0 ((stOf (cur ++ [x])).b.length ≤ 2300000 ∧ (stOf (cur ++ [x])).p.length ≤ 5000) := ⟨by
    have h1 := HBD.out
    obtain ⟨a1,a2,_,_⟩:=addT_bounds (stOf cur) (keyS x) (valS x) (by have:=keyS_le HX.out.1;omega) (by have:=valS_le HX.out;omega)
    have := keyS_le HX.out.1
    have := valS_le HX.out
    rw [stOf_snoc]
    omega⟩
   have HSN := Aside0.mk (sizeN.calls n w6 g _ I7.out.bld (by have := HB2.out; omega) (by have := HB2.out; omega))
   rw [← hsz.out] at HSN
   by_cases hcut : 200 ≤ sz ∨ i + 1 = l.length
   ·have HC2 := Aside0.mk (HCUT.out (by rw [← hsz.out]; exact hcut))
    have hfin : ∀ (w8 : World) (n' g' : Nat) (vr' vs' : Value),BuS w w8 pb pr ps pc n' g' vr' vs' St0 (cs.flatMap blk ++ (stOf (cur ++ [x])).out) (cs.flatMap (fun c=>put (blk c).length) ++ put (stOf (cur ++ [x])).out.length) (cs.length + 1) → Aside0 (w.heap.size ≤ n')∧Aside0 (BuS w w8 pb pr ps pc n' g' vr' vs' (stOf []) ((cs ++ [cur ++ [x]]).flatMap blk) ((cs ++ [cur ++ [x]]).flatMap (fun c=>put (blk c).length)) (cs ++ [cur ++ [x]]).length):=fun w8 n' g' vr' vs' h=>⟨⟨by have:=h.hr;omega⟩,⟨by
     rw [List.flatMap_append,List.flatMap_append,List.length_append,List.flatMap_singleton,List.flatMap_singleton];exact h⟩⟩
    have HFIN := Aside0.mk hfin
    clear hfin HCUT HGO HI
    by_cases h200 : 200 ≤ sz
    ·have p5 : ((200 : Int) ≤ (sz : Int)) = True := eq_true (by omega)
     clear hcut
     go_wp2_with (first
     | (go_at_call 48;refine HSN.out.mono ?_;rintro e w7 ⟨rfl,m7,rfl⟩;have I8:=Aside0.mk (I7.out.below (pw_below_drewN (Below.refl _ w6) m7)))
     | (go_at_call 42;refine (end.calls w _ pb pr ps pc n g vr vs _ _ _ _ I8.out (by have:=HB2.out;omega) (by have:=HB2.out;omega) (by have:=HRL.out;omega) (by have:=HRL.out;omega) (by have:=HCN.out;omega)).mono ?_;rintro e w8 ⟨rfl,n',g',vr',vs',hI9⟩;have I9:=Aside0.mk hI9;clear hI9))
     go_roundg k1
     case measure => omega
     case rel=>exact ⟨i + 1,cs ++ [cur ++ [x]],[],n',g',vr',vs',by go_num,by omega,by omega,(HFIN.out _ _ _ _ _ I9.out).1,HC2,(HFIN.out _ _ _ _ _ I9.out).2⟩
    ·have p5 : ((200 : Int) ≤ (sz : Int)) = False := eq_false (by omega)
     have p6 : ((i : Int) == (l.length : Int) - 1) = true := beq_iff_eq.2 (by omega)
     clear hcut
     go_wp2_with (first
     | (go_at_call 48;refine HSN.out.mono ?_;rintro e w7 ⟨rfl,m7,rfl⟩;have I8:=Aside0.mk (I7.out.below (pw_below_drewN (Below.refl _ w6) m7)))
     | (go_at_call 42;refine (end.calls w _ pb pr ps pc n g vr vs _ _ _ _ I8.out (by have:=HB2.out;omega) (by have:=HB2.out;omega) (by have:=HRL.out;omega) (by have:=HRL.out;omega) (by have:=HCN.out;omega)).mono ?_;rintro e w8 ⟨rfl,n',g',vr',vs',hI9⟩;have I9:=Aside0.mk hI9;clear hI9))
     go_roundg k1
     case measure => omega
     case rel=>exact ⟨i + 1,cs ++ [cur ++ [x]],[],n',g',vr',vs',by go_num,by omega,by omega,(HFIN.out _ _ _ _ _ I9.out).1,HC2,(HFIN.out _ _ _ _ _ I9.out).2⟩
   ·have HC2 := Aside0.mk (HGO.out (by rw [← hsz.out]; omega) (by omega))
    have p5 : ((200 : Int) ≤ (sz : Int)) = False := eq_false (by omega)
    have p6 : ((i : Int) == (l.length : Int) - 1) = false := beq_eq_false_iff_ne.2 (by omega)
    clear HCUT HGO HI
    go_wp2_with (first
     | (go_at_call 48;refine HSN.out.mono ?_;rintro e w7 ⟨rfl,m7,rfl⟩;have I8:=Aside0.mk (I7.out.below (pw_below_drewN (Below.refl _ w6) m7)))
     | (go_at_call 42;refine (end.calls w _ pb pr ps pc n g vr vs _ _ _ _ I8.out (by have:=HB2.out;omega) (by have:=HB2.out;omega) (by have:=HRL.out;omega) (by have:=HRL.out;omega) (by have:=HCN.out;omega)).mono ?_;rintro e w8 ⟨rfl,n',g',vr',vs',hI9⟩;have I9:=Aside0.mk hI9;clear hI9))
    go_roundg k1
    case measure => omega
    case rel => exact ⟨i + 1, cs, cur ++ [x], n, g, vr, vs, by go_num, by omega, by omega, HN, HC2, I8⟩
  ·have hie2 : i = l.length := by omega
   subst hie2
   have hcs := HI.out.end_
   subst hcs
   obtain ⟨Ar, cr, er⟩ := Kd.R_slice HB.out.R
   subst er
   obtain ⟨As, c_s, es⟩ := Kd.R_slice HB.out.S
   subst es
   have hrl := rowsB_length HL.out HO.out
   have hnl := cutB_length_le l []
   have hsl := (HI.out.rows_le HO.out).2
   have hbb := (tblB_bytes HNE.out HL.out HO.out HF.out.2.2).1
   have hll := HL.out
   have HRES : Aside0 (∀ RB SB NB,RB = rowsB l → SB = sizesB l → NB = (cutB [] l).length → fix (8 + RB.length + (put NB ++ SB ++ flt).length + 12) 8 ++ RB ++ (put NB ++ SB ++ flt) ++ fix (put NB ++ SB ++ flt).length 4 = bodyB l flt):=⟨by rintro RB SB NB rfl rfl rfl;rfl⟩
   have HTB : Aside0 (tblB l flt = bodyB l flt ++ fix (QCrc.sum (bodyB l flt)) 4 ++ fix 1768842089 4) := ⟨rfl⟩
   clear HI
   go_wp2_with (fail)
   have HB' : Aside0 (BuS w wr pb pr ps pc n g (.slice Ar (rowsB l).length cr) (.slice As (sizesB l).length c_s) (stOf cur) (rowsB l) (sizesB l) (cutB [] l).length):=⟨HB.out⟩
   clear HB
   have hsl : (sizesB l).length ≤ 10 * l.length := hsl
   obtain ⟨RB, hRB⟩ : ∃ RB, RB = rowsB l := ⟨_, rfl⟩
   obtain ⟨SB, hSB⟩ : ∃ SB, SB = sizesB l := ⟨_, rfl⟩
   obtain ⟨NB, hNB⟩ : ∃ NB, NB = (cutB [] l).length := ⟨_, rfl⟩
   have HRES2 := Aside0.mk (HRES.out RB SB NB hRB hSB hNB)
   rw [← hRB, ← hSB, ← hNB] at HB'
   rw [← hRB] at hrl
   rw [← hSB] at hsl
   rw [← hNB] at hnl
   clear HRES hRB hSB hNB
   have hpn := put_length10 (n := NB) (by omega)
   obtain ⟨TN, hTN⟩ : ∃ TN, TN = (put NB ++ SB ++ flt).length := ⟨_, rfl⟩
   have hTN2 : TN = (put NB).length + SB.length + flt.length := by rw [hTN]; simp only [List.length_append]
   rw [← hTN] at HRES2
   have hfl := HF.out.2.1
   obtain ⟨FX, hFX⟩ : ∃ FX, FX = fix (8 + RB.length + TN + 12) 8 := ⟨_, rfl⟩
   have hFXl : FX.length = 8 := by rw [hFX, fix_length]
   have BD:=Aside0.mk (And.intro hrl (And.intro hsl (And.intro hpn (And.intro hfl (And.intro hFXl (And.intro hTN2 hll))))))
   obtain ⟨K3, hK3⟩ := Put_ev (n := NB) (by omega)
   have HK3 := Aside0.mk (hK3 K3 (Nat.le_refl _))
   obtain ⟨K6, hK6⟩ := Put64_ev (n := 8 + RB.length + TN + 12) (by omega)
   have HK6 := Aside0.mk (hK6 K6 (Nat.le_refl _))
   rw [← hFX] at HK6 HRES2
   obtain ⟨K7, hK7⟩ := Put32_ev (n := TN) (by omega)
   have HK7 := Aside0.mk (hK7 K7 (Nat.le_refl _))
   have hbl : (FX ++ RB ++ (put NB ++ SB ++ flt) ++ fix TN 4).length < 10000000:=by simp only [List.length_append,fix_length];omega
   rw [← HRES2.out] at hbb
   obtain ⟨K8, hK8⟩ := QCrc.Sum_ev hbb (by omega)
   have HK8 := Aside0.mk (hK8 K8 (Nat.le_refl _))
   obtain ⟨SM, hSM⟩ : ∃ SM, SM = QCrc.sum (FX ++ RB ++ (put NB ++ SB ++ flt) ++ fix TN 4) := ⟨_, rfl⟩
   have hSMl := QCrc.sum_lt hbb
   rw [← hSM] at HK8 hSMl
   obtain ⟨K9, hK9⟩ := Put32_ev (n := SM) (by omega)
   have HK9 := Aside0.mk (hK9 K9 (Nat.le_refl _))
   obtain ⟨K10, hK10⟩ := Put32_ev (n := 1768842089) (by omega)
   have HK10 : Aside0 (varint_Put32.f K10 1768842089 = some (fix 1768842089 4)) := ⟨hK10 K10 (Nat.le_refl _)⟩
   have HSM := Aside0.mk hSM
   have HTN := Aside0.mk hTN
   have HBL := Aside0.mk hbl
   clear hK3 hK6 hK7 hK8 hK9 hK10 hbb hSM hFX hTN hbl
   have hNBw : IntKind.u64.wrap (NB : Int) = (NB : Int) := u64_id (by omega) (by omega)
   have HCr : Aside0 (∀ w',Below wr.heap.size wr w' → Kd.C (Kd.int .u8) w' Ar RB.length RB):=⟨fun w' h=>by have h_:=Kd.R_reads' (Kd.R_below HB'.out.R h);exact h_.2.2⟩
   have HCs : Aside0 (∀ w',Below wr.heap.size wr w' → Kd.C (Kd.int .u8) w' As SB.length SB):=⟨fun w' h=>by have h_:=Kd.R_reads' (Kd.R_below HB'.out.S h);exact h_.2.2⟩
   have Hzr : Aside0 (∀ w',Below wr.heap.size wr w' → w'.cell? ⟨pr,0,none⟩ = some (.slice Ar RB.length cr)):=⟨fun w' h=>(blk_cell (blk_below HB'.out.r h) 0).trans rfl⟩
   have zc : wr.cell? ⟨pc, 0, none⟩ = some (.int .i64 NB) := (blk_cell HB'.out.c 0).trans rfl
   have zs : wr.cell? ⟨ps, 0, none⟩ = some (.slice As SB.length c_s) := (blk_cell HB'.out.s 0).trans rfl
   have HCl := Aside0.mk (Kd.C_below HR.out HB'.out.base)
   have HB3 := Aside0.mk (Below.refl wr.heap.size wr)
   obtain ⟨rl, hrl_⟩ : ∃ rl, Aside0 (rl = RB.length) := ⟨_, ⟨rfl⟩⟩
   obtain ⟨sl, hsl_⟩ : ∃ sl, Aside0 (sl = SB.length) := ⟨_, ⟨rfl⟩⟩
   rw [← hrl_.out] at HCr Hzr
   rw [← hsl_.out] at zs HCs
   have HBASE := Aside0.mk HB'.out.base
   clear hll hrl hsl hpn hfl hnl hFXl hTN2 hSMl
   go_region_held_law (fun w'=>w'.cell? ⟨pc,0,none⟩ = some (.int .i64 NB)∧w'.cell? ⟨ps,0,none⟩ = some (.slice As sl c_s)) (first | exact ⟨xc,xs⟩ | exact ⟨yc,ys⟩ | exact ⟨zc,zs⟩) (first
    | (go_simp;go_at_call 44;refine (varint_Put.calls K3 (NB : Int) (put NB) _ HK3.out).mono ?_;rintro e w4 ⟨v0,rfl,hR,hb⟩;obtain ⟨A4,c4,e4⟩:=Kd.R_slice hR;obtain ⟨n4,hn4⟩ : ∃ n4,Aside0 (n4 = (put NB).length):=⟨_,⟨rfl⟩⟩;rw [← hn4.out] at e4;subst e4;have hb':=below_step (below_drew1 HB3.out) hb;have HB4:=Aside0.mk hb';have HT4:=Aside0.mk (Kd.R_lower hR HB3.out.size);have yc : w4.cell? ⟨pc,0,none⟩ = some (.int .i64 NB):=(blk_cell (blk_below HB'.out.c hb') 0).trans rfl;have ys : w4.cell? ⟨ps,0,none⟩ = some (.slice As sl c_s):=(by rw [hsl_.out];exact (blk_cell (blk_below HB'.out.s hb') 0).trans rfl);clear hR hb hb')
    | (refine Kd.R_append_rows_step (Kd.int .u8) (w0:=wr) wr.heap.size (by rfl) (.tmp 51) (.tmp 52) 43 5 (.int .u8 0) 1 rfl Try.underlying43 info5 rfl (by decide) (by omega) (.slice A4 n4 c4) (put NB) SB As sl c_s (fun _=>True) (fun _=>False) (by rfl) (by rfl) ?aO ?aR (fun _ _ h=>h) (fun _ h=>h.elim) ?aF ?aB ?aS ?aL ?_;(case aO=>exact HT4.out);(case aR=>exact HCs.out _ HB4.out);(case aF=>exact fun _ _=>trivial);(case aB=>exact HB4.out);(case aS=>exact HB4.out.size);(case aL=>have:=BD.out;have:=hsl_.out;omega);intro v1 w5 hR hb hg hat;obtain ⟨A5,c5,e5⟩:=Kd.R_slice hR;obtain ⟨n5,hn5⟩ : ∃ n5,Aside0 (n5 = (put NB ++ SB).length):=⟨_,⟨rfl⟩⟩;rw [← hn5.out] at e5;subst e5;have HB5:=Aside0.mk hb;have HT5:=Aside0.mk hR;have xc : w5.cell? ⟨pc,0,none⟩ = some (.int .i64 NB):=(blk_cell (blk_below HB'.out.c hb) 0).trans rfl;have xs : w5.cell? ⟨ps,0,none⟩ = some (.slice As sl c_s):=(by rw [hsl_.out];exact (blk_cell (blk_below HB'.out.s hb) 0).trans rfl);clear hR hb hg hat))
   clear zc zs yc ys xc xs
   go_wp2_with (first
    | (go_at_call 50;refine (table_norms.calls A c l w5 (Kd.C_below HCl.out HB5.out) HNE.out (by have:=BD.out;omega)).mono ?_;rintro e w6 ⟨v0,rfl,hR,hb⟩;obtain ⟨A6,c6,e6⟩:=Kd.R_slice hR;subst e6;have HX6:=Aside0.mk (Kd.R_reads' hR).2;have hb':=below_step HB5.out hb;have HB6:=Aside0.mk hb';have HT5_6:=Aside0.mk (Kd.R_below HT5.out hb);clear hR hb hb')
    | (go_at_call 49;refine (bloom_Make.calls K0 _ _ (compB (l.map S28.f0)) flt _ HX6.out.2 HX6.out.1 HF.out.1).mono ?_;rintro e w7 ⟨v0,rfl,hR,hb⟩;obtain ⟨A7,c7,e7⟩:=Kd.R_slice hR;obtain ⟨n7,hn7⟩ : ∃ n7,Aside0 (n7 = (flt).length):=⟨_,⟨rfl⟩⟩;rw [← hn7.out] at e7;subst e7;have hb':=below_step HB6.out hb;have HB7:=Aside0.mk hb';have HT7:=Aside0.mk (Kd.R_lower hR HB6.out.size);have HT5_7:=Aside0.mk (Kd.R_below HT5_6.out hb);clear hR hb hb')
    | ((with_reducible refine gate_builtin (b:=.append) (xs:=#[.tmp 54,.tmp 57]) rfl ?_);at_builtin;refine Kd.R_append_rows (Kd.int .u8) (w0:=wr) wr.heap.size rfl (.tmp 54) (.tmp 57) 43 5 (.int .u8 0) 1 rfl Try.underlying43 info5 rfl (by decide) (by omega) (.slice A5 n5 c5) (put NB ++ SB) (flt) A7 n7 c7 (fun _=>True) (fun _=>False) rfl rfl ?aO ?aR (fun _ _ h=>h) (fun _ h=>h.elim) ?aF ?aB ?aS ?aL ?_;(case aO=>exact HT5_7.out);(case aR=>exact (by have h_:=(Kd.R_reads' HT7.out);rw [h_.1];exact h_.2.2));(case aF=>exact fun _ _=>trivial);(case aB=>exact HB7.out);(case aS=>exact (HB7.out).size);(case aL=>have hb_:=BD.out;have h0_:=hn7.out;first | omega | (simp only [List.length_append,fix_length] at h0_ ⊢;omega));intro v1 w8 hR hb hg hat;obtain ⟨A8,c8,e8⟩:=Kd.R_slice hR;obtain ⟨n8,hn8⟩ : ∃ n8,Aside0 (n8 = (put NB ++ SB ++ flt).length):=⟨_,⟨rfl⟩⟩;rw [← hn8.out] at e8;subst e8;have HB8:=Aside0.mk hb;have HT8:=Aside0.mk hR;have hn8' : n8 = TN:=(by rw [hn8.out,HTN.out]);have hrN:=Hzr.out _ HB8.out;have h8w : Aside0 (IntKind.u64.wrap (wrap64 (wrap64 (wrap64 (8 + (rl : Int)) + (n8 : Int)) + 12)) = ((8 + RB.length + TN + 12 : Nat) : Int)):=⟨by have h1:=BD.out;have h2:=hrl_.out;(rw [wrap64_id (n:=8 + (rl : Int)) (by omega) (by omega),wrap64_id (n:=8 + (rl : Int) + (n8 : Int)) (by omega) (by omega),wrap64_id (by omega) (by omega),u64_id (by omega) (by omega)]);omega⟩;have hw32 : IntKind.u32.wrap (n8 : Int) = (TN : Int):=(by rw [u32_id (by omega) (by have:=BD.out;omega)];omega);have HN8:=Aside0.mk hn8';clear hn8';have BD8 : Aside0 (n8 < 2000000∧rl < 3000000):=⟨by have:=BD.out;have:=hrl_.out;have:=HN8.out;omega⟩;clear hR hb hg hat)
    | (go_at_call 51;rw [h8w.out];refine (varint_Put64.calls K6 _ FX _ HK6.out).mono ?_;rintro e w9 ⟨v0,rfl,hR,hb⟩;obtain ⟨A9,c9,e9⟩:=Kd.R_slice hR;obtain ⟨n9,hn9⟩ : ∃ n9,Aside0 (n9 = (FX).length):=⟨_,⟨rfl⟩⟩;rw [← hn9.out] at e9;subst e9;have hb':=below_step HB8.out hb;have HB9:=Aside0.mk hb';have HT9:=Aside0.mk (Kd.R_lower hR HB8.out.size);have HT8_9:=Aside0.mk (Kd.R_below HT8.out hb);have hr9:=Hzr.out _ HB9.out;have HNE9 : Aside0 (∀ k,Value.ownBlock (.slice A8 n8 c8) = some k → Value.ownBlock (.slice A9 n9 c9) ≠ some k):=⟨fun k hk e=>by have h1:=Kd.R_lt HT8.out k hk;have h2:=Kd.R_base hR k e;omega⟩;clear hR hb hb')
    | ((with_reducible refine gate_builtin (b:=.append) (xs:=#[.tmp 68,.tmp 69]) rfl ?_);at_builtin;refine Kd.R_append_rows (Kd.int .u8) (w0:=wr) wr.heap.size rfl (.tmp 68) (.tmp 69) 43 5 (.int .u8 0) 1 rfl Try.underlying43 info5 rfl (by decide) (by omega) (.slice A9 n9 c9) (FX) (RB) Ar rl cr (fun _=>True) (fun _=>False) rfl rfl ?aO ?aR (fun _ _ h=>h) (fun _ h=>h.elim) ?aF ?aB ?aS ?aL ?_;(case aO=>exact HT9.out);(case aR=>exact HCr.out _ HB9.out);(case aF=>exact fun _ _=>trivial);(case aB=>exact HB9.out);(case aS=>exact (HB9.out).size);(case aL=>have hb_:=BD.out;have h0_:=hrl_.out;first | omega | (simp only [List.length_append,fix_length] at h0_ ⊢;omega));intro v1 w10 hR hb hg hat;obtain ⟨A10,c10,e10⟩:=Kd.R_slice hR;obtain ⟨n10,hn10⟩ : ∃ n10,Aside0 (n10 = (FX ++ RB).length):=⟨_,⟨rfl⟩⟩;rw [← hn10.out] at e10;subst e10;have HB10:=Aside0.mk hb;have HT10:=Aside0.mk hR;have HT8_10 : Aside0 (Kd.R (Kd.int .u8) 5 w10 wr.heap.size (fun _=>True) (.slice A8 n8 c8) (put NB ++ SB ++ flt)):=⟨u8_step HT8_9.out (fun k hk=>hg.block k (Kd.R_lt HT8_9.out k hk) (fun e=>HNE9.out k hk e.symm))⟩;clear hR hb hg hat)
    | ((with_reducible refine gate_builtin (b:=.append) (xs:=#[.tmp 70,.tmp 71]) rfl ?_);at_builtin;refine Kd.R_append_rows (Kd.int .u8) (w0:=wr) wr.heap.size rfl (.tmp 70) (.tmp 71) 43 5 (.int .u8 0) 1 rfl Try.underlying43 info5 rfl (by decide) (by omega) (.slice A10 n10 c10) (FX ++ RB) (put NB ++ SB ++ flt) A8 n8 c8 (fun _=>True) (fun _=>False) rfl rfl ?aO ?aR (fun _ _ h=>h) (fun _ h=>h.elim) ?aF ?aB ?aS ?aL ?_;(case aO=>exact HT10.out);(case aR=>exact (by have h_:=(Kd.R_reads' HT8_10.out);rw [h_.1];exact h_.2.2));(case aF=>exact fun _ _=>trivial);(case aB=>exact HB10.out);(case aS=>exact (HB10.out).size);(case aL=>have hb_:=BD.out;have h0_:=HN8.out;first | omega | (simp only [List.length_append,fix_length] at h0_ ⊢;omega));intro v1 w11 hR hb hg hat;obtain ⟨A11,c11,e11⟩:=Kd.R_slice hR;obtain ⟨n11,hn11⟩ : ∃ n11,Aside0 (n11 = (FX ++ RB ++ (put NB ++ SB ++ flt)).length):=⟨_,⟨rfl⟩⟩;rw [← hn11.out] at e11;subst e11;have HB11:=Aside0.mk hb;have HT11:=Aside0.mk hR;clear hR hb hg hat)
    | (go_at_call 52;refine (varint_Put32.calls K7 _ (fix TN 4) _ HK7.out).mono ?_;rintro e w12 ⟨v0,rfl,hR,hb⟩;obtain ⟨A12,c12,e12⟩:=Kd.R_slice hR;obtain ⟨n12,hn12⟩ : ∃ n12,Aside0 (n12 = (fix TN 4).length):=⟨_,⟨rfl⟩⟩;rw [← hn12.out] at e12;subst e12;have hb':=below_step HB11.out hb;have HB12:=Aside0.mk hb';have HT12:=Aside0.mk (Kd.R_lower hR HB11.out.size);have HT11_12:=Aside0.mk (Kd.R_below HT11.out hb);clear hR hb hb')
    | ((with_reducible refine gate_builtin (b:=.append) (xs:=#[.tmp 72,.tmp 76]) rfl ?_);at_builtin;refine Kd.R_append_rows (Kd.int .u8) (w0:=wr) wr.heap.size rfl (.tmp 72) (.tmp 76) 43 5 (.int .u8 0) 1 rfl Try.underlying43 info5 rfl (by decide) (by omega) (.slice A11 n11 c11) (FX ++ RB ++ (put NB ++ SB ++ flt)) (fix TN 4) A12 n12 c12 (fun _=>True) (fun _=>False) rfl rfl ?aO ?aR (fun _ _ h=>h) (fun _ h=>h.elim) ?aF ?aB ?aS ?aL ?_;(case aO=>exact HT11_12.out);(case aR=>exact (by have h_:=(Kd.R_reads' HT12.out);rw [h_.1];exact h_.2.2));(case aF=>exact fun _ _=>trivial);(case aB=>exact HB12.out);(case aS=>exact (HB12.out).size);(case aL=>have hb_:=BD.out;have h0_:=hn12.out;first | omega | (simp only [List.length_append,fix_length] at h0_ ⊢;omega));intro v1 w13 hR hb hg hat;obtain ⟨A13,c13,e13⟩:=Kd.R_slice hR;obtain ⟨n13,hn13⟩ : ∃ n13,Aside0 (n13 = (FX ++ RB ++ (put NB ++ SB ++ flt) ++ (fix TN 4)).length):=⟨_,⟨rfl⟩⟩;rw [← hn13.out] at e13;subst e13;have HB13:=Aside0.mk hb;have HT13:=Aside0.mk hR;have HS13 : Aside0 (Calls Try.prog 53 #[.slice A13 n13 c13] w13 (fun e w'=>e = .returned (.int .u32 (SM : Int))∧Drawn0 w13 w')):=⟨(by obtain ⟨q1,q2,q3⟩:=Kd.R_reads' hR;rw [q1] at q2 ⊢;exact crc_Sum.calls K8 A13 c13 (FX ++ RB ++ (put NB ++ SB ++ flt) ++ fix TN 4) (SM : Int) w13 q3 q2 HK8.out)⟩;clear hR hb hg hat)
    | (go_at_call 53;refine HS13.out.mono ?_;rintro e w14 ⟨rfl,hd⟩;obtain ⟨m14,hm14⟩:=hd.out;have HB14 : Aside0 (Below wr.heap.size wr w14):=⟨(by rw [hm14];exact pw_below_drewN HB13.out m14)⟩;have HT13_14 : Aside0 (Kd.R (Kd.int .u8) 5 w14 wr.heap.size (fun _=>True) (.slice A13 n13 c13) (FX ++ RB ++ (put NB ++ SB ++ flt) ++ fix TN 4)):=⟨(by rw [hm14];exact Kd.R_drewN HT13.out m14)⟩;clear hm14 hd)
    | (go_at_call 52;refine (varint_Put32.calls K9 _ (fix SM 4) _ HK9.out).mono ?_;rintro e w15 ⟨v0,rfl,hR,hb⟩;obtain ⟨A15,c15,e15⟩:=Kd.R_slice hR;obtain ⟨n15,hn15⟩ : ∃ n15,Aside0 (n15 = (fix SM 4).length):=⟨_,⟨rfl⟩⟩;rw [← hn15.out] at e15;subst e15;have hb':=below_step HB14.out hb;have HB15:=Aside0.mk hb';have HT15:=Aside0.mk (Kd.R_lower hR HB14.out.size);have HT13_15:=Aside0.mk (Kd.R_below HT13_14.out hb);clear hR hb hb')
    | ((with_reducible refine gate_builtin (b:=.append) (xs:=#[.tmp 78,.tmp 81]) rfl ?_);at_builtin;refine Kd.R_append_rows (Kd.int .u8) (w0:=wr) wr.heap.size rfl (.tmp 78) (.tmp 81) 43 5 (.int .u8 0) 1 rfl Try.underlying43 info5 rfl (by decide) (by omega) (.slice A13 n13 c13) (FX ++ RB ++ (put NB ++ SB ++ flt) ++ fix TN 4) (fix SM 4) A15 n15 c15 (fun _=>True) (fun _=>False) rfl rfl ?aO ?aR (fun _ _ h=>h) (fun _ h=>h.elim) ?aF ?aB ?aS ?aL ?_;(case aO=>exact HT13_15.out);(case aR=>exact (by have h_:=(Kd.R_reads' HT15.out);rw [h_.1];exact h_.2.2));(case aF=>exact fun _ _=>trivial);(case aB=>exact HB15.out);(case aS=>exact (HB15.out).size);(case aL=>have hb_:=BD.out;have h0_:=hn15.out;first | omega | (simp only [List.length_append,fix_length] at h0_ ⊢;omega));intro v1 w16 hR hb hg hat;obtain ⟨A16,c16,e16⟩:=Kd.R_slice hR;obtain ⟨n16,hn16⟩ : ∃ n16,Aside0 (n16 = (FX ++ RB ++ (put NB ++ SB ++ flt) ++ fix TN 4 ++ (fix SM 4)).length):=⟨_,⟨rfl⟩⟩;rw [← hn16.out] at e16;subst e16;have HB16:=Aside0.mk hb;have HT16:=Aside0.mk hR;clear hR hb hg hat)
    | (go_at_call 52;refine (varint_Put32.calls K10 _ (fix 1768842089 4) _ HK10.out).mono ?_;rintro e w17 ⟨v0,rfl,hR,hb⟩;obtain ⟨A17,c17,e17⟩:=Kd.R_slice hR;obtain ⟨n17,hn17⟩ : ∃ n17,Aside0 (n17 = (fix 1768842089 4).length):=⟨_,⟨rfl⟩⟩;rw [← hn17.out] at e17;subst e17;have hb':=below_step HB16.out hb;have HB17:=Aside0.mk hb';have HT17:=Aside0.mk (Kd.R_lower hR HB16.out.size);have HT16_17:=Aside0.mk (Kd.R_below HT16.out hb);clear hR hb hb')
    | ((with_reducible refine gate_builtin (b:=.append) (xs:=#[.tmp 82,.tmp 83]) rfl ?_);at_builtin;refine Kd.R_append_rows (Kd.int .u8) (w0:=wr) wr.heap.size rfl (.tmp 82) (.tmp 83) 43 5 (.int .u8 0) 1 rfl Try.underlying43 info5 rfl (by decide) (by omega) (.slice A16 n16 c16) (FX ++ RB ++ (put NB ++ SB ++ flt) ++ fix TN 4 ++ fix SM 4) (fix 1768842089 4) A17 n17 c17 (fun _=>True) (fun _=>False) rfl rfl ?aO ?aR (fun _ _ h=>h) (fun _ h=>h.elim) ?aF ?aB ?aS ?aL ?_;(case aO=>exact HT16_17.out);(case aR=>exact (by have h_:=(Kd.R_reads' HT17.out);rw [h_.1];exact h_.2.2));(case aF=>exact fun _ _=>trivial);(case aB=>exact HB17.out);(case aS=>exact (HB17.out).size);(case aL=>have hb_:=BD.out;have h0_:=hn17.out;first | omega | (simp only [List.length_append,fix_length] at h0_ ⊢;omega));intro v1 w18 hR hb hg hat;obtain ⟨A18,c18,e18⟩:=Kd.R_slice hR;obtain ⟨n18,hn18⟩ : ∃ n18,Aside0 (n18 = (FX ++ RB ++ (put NB ++ SB ++ flt) ++ fix TN 4 ++ fix SM 4 ++ (fix 1768842089 4)).length):=⟨_,⟨rfl⟩⟩;rw [← hn18.out] at e18;subst e18;have HB18:=Aside0.mk hb;have HT18:=Aside0.mk hR;clear hR hb hg hat))
   go_ret2
   exact ⟨_,rfl,by rw [HTB.out,← HRES2.out,← HSM.out];exact Kd.R_lower HT18.out HBASE.out.size,HBASE.out.trans (HB18.out.mono HBASE.out.size)⟩
end Go.Proofs.Ytenmljkddhonmaa.MTbl

namespace Go.Proofs.Ytenmljkddhonmaa.MTbl
open Go.RowKit Go.Proofs.YtenmljkddhonmaaW.PrintWords Go.Proofs.YtenmljkddhonmaaW.PrintLast Go.Proofs.YtenmljkddhonmaaW.PrintMore
set_option linter.unusedVariables false
set_option linter.unusedSimpArgs false
/-- A reader that stands in a block of its own; what it reads came in. -/
def RdI (w0 w : World) (g : Nat) (l : List Int) (bad : Bool) : Prop:=w0.heap.size ≤ g∧Below w0.heap.size w0 w∧∃ A c,w.heap[g]? = some (.cells #[.slice A l.length c,.bool bad] 99 (0,0))∧Kd.C (Kd.int .u8) w0 A l.length l∧l.length ≤ c
def stepF (l : List Int) (bad : Bool) (n : Int) : Option (List Int × Bool) :=
 if bad = true then some ([],true) else if n = 0 then some ([],true) else if 0 ≤ n∧n ≤ (l.length : Int) then some (l.drop n.toNat,false) else none
set_option maxHeartbeats 4000000 in
theorem varint_Reader_step.calls (g : Nat) (l : List Int) (bad : Bool) (n : Int) (l' : List Int) (bad' : Bool) (w0 w : World) (hI : RdI w0 w g l bad) (h : stepF l bad n = some (l',bad')) :
  Calls Try.prog 77 #[.pointer (some ⟨g,0,none⟩),.int .i64 n] w fun e w'=>e = .returned (.tuple #[])∧RdI w0 w' g l' bad'∧KeepBut w w' g none:=by
 obtain ⟨hg, hB, A, c, hC, hR, hlc⟩ := hI
 have HB := Aside0.mk hB
 have HR := Aside0.mk hR
 have HC := Aside0.mk hC
 clear hB hR hC
 have hc0 := (blk_cell HC.out 0).trans rfl
 have hc1 := (blk_cell HC.out 1).trans rfl
 have hf0 := blk_frozen HC.out 0
 have hf1 := blk_frozen HC.out 1
 unfold stepF at h
 cases bad with
 | true =>
  rw [if_pos rfl] at h
  simp only [Option.some.injEq, Prod.mk.injEq] at h
  obtain ⟨rfl, rfl⟩ := h
  go_enter Try.func77, Try.ntmps77
  go_wp2
  refine bodyPost_ret (results_none rfl _ _ _) rfl ?_
  refine ⟨rfl,⟨hg,below_set (below_set HB.out hg) hg,none,0,blk_set (blk_set HC.out 1 _) 0 _,Kd.C_nil _ _,Nat.le_refl _⟩,KeepBut.set_ (KeepBut.set_ (KeepBut.refl _ _ _) 1 _) 0 _⟩
 | false =>
  rw [if_neg (by simp)] at h
  by_cases h0 : n = 0
  ·rw [if_pos h0] at h
   simp only [Option.some.injEq, Prod.mk.injEq] at h
   obtain ⟨rfl, rfl⟩ := h
   subst h0
   go_enter Try.func77, Try.ntmps77
   go_wp2
   refine bodyPost_ret (results_none rfl _ _ _) rfl ?_
   refine ⟨rfl,⟨hg,below_set (below_set HB.out hg) hg,none,0,blk_set (blk_set HC.out 1 _) 0 _,Kd.C_nil _ _,Nat.le_refl _⟩,KeepBut.set_ (KeepBut.set_ (KeepBut.refl _ _ _) 1 _) 0 _⟩
  ·rw [if_neg h0] at h
   by_cases hn : 0 ≤ n ∧ n ≤ (l.length : Int)
   ·rw [if_pos hn] at h
    simp only [Option.some.injEq, Prod.mk.injEq] at h
    obtain ⟨rfl, rfl⟩ := h
    have h0b : (n == 0) = false := beq_eq_false_iff_ne.mpr h0
    obtain ⟨i0, hi0, _, hsz, _⟩ := info_parts info5
    have hcut := cut_from (P := Try.prog) 43 5 .i64 Try.underlying43 hi0 1 hsz A l.length c n hn.1 hn.2
    have hr := Kd.C_drop (m := n.toNat) (c := c) HR.out (by omega) hlc
    have hsz1 : (Kd.int .u8).sz = 1 := rfl
    obtain ⟨A1, hA1⟩ : ∃ A1, Aside0 (A1 = (if c = n.toNat then A else A.map (·.add (n.toNat * 1)))) := ⟨_, ⟨rfl⟩⟩
    obtain ⟨c1, hc1_⟩ : ∃ c1, Aside0 (c1 = c - n.toNat) := ⟨_, ⟨rfl⟩⟩
    have hy : (l.drop n.toNat).length = l.length - n.toNat := List.length_drop
    rw [← hA1.out, ← hc1_.out, ← hy] at hcut
    have HR1:=Aside0.mk (show Kd.C (Kd.int .u8) w0 A1 (l.drop n.toNat).length (l.drop n.toNat) by rw [hA1.out];exact hr)
    have HL1 : Aside0 ((l.drop n.toNat).length ≤ c1) := ⟨by rw [hc1_.out, hy]; omega⟩
    clear hr hy
    generalize l.drop n.toNat = l1 at hcut HR1 HL1
    go_enter Try.func77, Try.ntmps77
    go_wp2
    go_end0
    refine ⟨rfl,⟨hg,below_set (below_set HB.out hg) hg,A1,c1,blk_set (blk_set HC.out 1 _) 0 _,HR1.out,HL1.out⟩,KeepBut.set_ (KeepBut.set_ (KeepBut.refl _ _ _) 1 _) 0 _⟩
   ·rw [if_neg hn] at h; cases h
theorem RdI.below {w0 w w' : World} {g : Nat} {l : List Int} {bad : Bool} (h : RdI w0 w g l bad) (hb : Below w.heap.size w w') : RdI w0 w' g l bad:=by
 obtain ⟨h1, h2, A, c, h3, h4, h5⟩ := h
 exact ⟨h1, below_step h2 hb, A, c, (hb.block g (blk_lt h3)).trans h3, h4, h5⟩
def numF (k : Nat) (l : List Int) (bad : Bool) (most : Int) : Option (Int × List Int × Bool) :=
 (varint_Get.f k l).bind fun p=>(stepF l bad (if p.1 > IntKind.u64.wrap most then 0 else p.2)).bind fun q=>some (if q.2 = true then 0 else wrap64 p.1,q.1,q.2)
set_option maxHeartbeats 4000000 in
theorem varint_Reader_Num.calls (k g : Nat) (l : List Int) (bad : Bool) (most v : Int) (l' : List Int) (bad' : Bool) (w0 w : World) (hI : RdI w0 w g l bad) (h : numF k l bad most = some (v,l',bad')) :
  Calls Try.prog 56 #[.pointer (some ⟨g,0,none⟩),.int .i64 most] w fun e w'=>e = .returned (.int .i64 v)∧RdI w0 w' g l' bad'∧KeepBut w w' g none:=by
 unfold numF at h
 obtain ⟨⟨r1, r2⟩, hget, h⟩ := Option.bind_eq_some_iff.mp h
 obtain ⟨⟨l1, b1⟩, hst, h⟩ := Option.bind_eq_some_iff.mp h
 simp only [Option.some.injEq, Prod.mk.injEq] at h
 obtain ⟨rfl, rfl, rfl⟩ := h
 have HI := Aside0.mk hI
 obtain ⟨hg, hB, A, c, hC, hR, hlc⟩ := hI
 have HG := Aside0.mk hget
 have HS := Aside0.mk hst
 have HB := Aside0.mk hB
 have HR := Aside0.mk hR
 have hc0 := (blk_cell hC 0).trans rfl
 clear hB hR hC hget hst
 by_cases hgt : r1 > IntKind.u64.wrap most
 ·have hgt1 : (IntKind.u64.wrap most < r1) = True := eq_true hgt
  have HS2 : Aside0 (stepF l bad 0 = some (l1, b1)) := ⟨by have h_ := HS.out; simp only [if_pos hgt] at h_; exact h_⟩
  clear HS hgt
  cases b1
  all_goals go_enter Try.func56, Try.ntmps56
  all_goals go_wp2_with (first | (go_at_call 76;refine (varint_Get.calls k A c l r1 r2 w (Kd.C_below HR.out HB.out) hlc HG.out).mono ?_;rintro e w2 ⟨rfl,hb⟩;have HI2:=Aside0.mk (HI.out.below hb);have HB2:=Aside0.mk hb;clear hb) | (go_at_call 77;refine (varint_Reader_step.calls g l bad 0 l1 _ w0 w2 HI2.out HS2.out).mono ?_;rintro e w3 ⟨rfl,hI3,hk3⟩;have HI3:=Aside0.mk hI3;have HK3:=Aside0.mk (KeepBut.trans (KeepBut.of_below HB2.out g none) hk3 (.inl rfl));obtain ⟨A3,c3,hC3⟩:=hI3.2.2;have hd1:=(blk_cell hC3.1 1).trans rfl;clear hI3 hk3 hC3))
  all_goals go_ret
  all_goals exact ⟨by first | rfl | simp, HI3.out, HK3.out⟩
 ·have hgt1 : (IntKind.u64.wrap most < r1) = False := eq_false hgt
  have HS2 : Aside0 (stepF l bad r2 = some (l1, b1)) := ⟨by have h_ := HS.out; simp only [if_neg hgt] at h_; exact h_⟩
  clear HS hgt
  cases b1
  all_goals go_enter Try.func56, Try.ntmps56
  all_goals go_wp2_with (first | (go_at_call 76;refine (varint_Get.calls k A c l r1 r2 w (Kd.C_below HR.out HB.out) hlc HG.out).mono ?_;rintro e w2 ⟨rfl,hb⟩;have HI2:=Aside0.mk (HI.out.below hb);have HB2:=Aside0.mk hb;clear hb) | (go_at_call 77;refine (varint_Reader_step.calls g l bad r2 l1 _ w0 w2 HI2.out HS2.out).mono ?_;rintro e w3 ⟨rfl,hI3,hk3⟩;have HI3:=Aside0.mk hI3;have HK3:=Aside0.mk (KeepBut.trans (KeepBut.of_below HB2.out g none) hk3 (.inl rfl));obtain ⟨A3,c3,hC3⟩:=hI3.2.2;have hd1:=(blk_cell hC3.1 1).trans rfl;clear hI3 hk3 hC3))
  all_goals go_ret
  all_goals exact ⟨by first | rfl | simp, HI3.out, HK3.out⟩
end Go.Proofs.Ytenmljkddhonmaa.MTbl

namespace Go.Proofs.Ytenmljkddhonmaa.MTbl
open Go.RowKit Go.Proofs.Ytenmljkddhonmaa.QTbl Go.Proofs.YtenmljkddhonmaaW.PrintWords Go.Proofs.YtenmljkddhonmaaW.PrintLast Go.Proofs.YtenmljkddhonmaaW.PrintMore
set_option linter.unusedVariables false
set_option linter.unusedSimpArgs false
/-! What Open reads of a table's bytes -/
theorem numF_put {n : Nat} (hn : n ≤ 16777216) {rest : List Int} (hr : Bytes rest) : Ev (fun k=>numF k (put n ++ rest) false 16777216) ((n : Int),rest,false):=by
 have hb := Bytes.append (put_bytes (n := n) (by omega)) hr
 have hg := Get_ev hb
 have hp := put_length10 (n := n) (by omega)
 have hp1 := put_pos (n := n) (by omega)
 unfold numF
 refine Ev.bind hg ?_
 rw [get_put (by omega)]
 have e1 : IntKind.u64.wrap 16777216 = 16777216 := by decide
 have e2 : stepF (put n ++ rest) false ((put n).length : Int) = some (rest, false) := by
  unfold stepF
  rw [if_neg (by simp),if_neg (by omega),if_pos ⟨by omega,by rw [List.length_append];omega⟩,Int.toNat_natCast,List.drop_left]
 have e3 : ¬ (n : Int) > 16777216 := by omega
 simp only [e1, if_neg e3, e2]
 rw [Option.bind_some, if_neg (by simp), wrap64_id (by omega) (by omega)]
 exact Ev.now _
theorem e28_step {w w1 : World} {base : Nat} {ok : Nat → Prop} {v : Value} {xs : List S28} (h : Kd.R k28 28 w base ok v xs) (hm : ∀ k,v.ownBlock = some k → w1.heap[k]? = w.heap[k]?) : Kd.R k28 28 w1 base ok v xs :=
 Kd.R_reok rfl (Kd.R_step (Kd.R_tight rfl h) (fun k hk _ => hm k hk.symm)) h.1
theorem RdI.step {w0 w w1 : World} {g : Nat} {l : List Int} {bad : Bool} (h : RdI w0 w g l bad) (hb : Below w0.heap.size w0 w1) (hg : w1.heap[g]? = w.heap[g]?) : RdI w0 w1 g l bad:=by
 obtain ⟨h1, h2, A, c, h3, h4, h5⟩ := h
 exact ⟨h1, hb, A, c, hg.trans h3, h4, h5⟩
theorem tblB_foot (l : List S28) (flt : List Int) : ((tblB l flt).drop ((tblB l flt).length - 12)).take 4 = fix (tailB l flt).length 4:=by
 have e : tblB l flt = (fix (8 + (rowsB l).length + (tailB l flt).length + 12) 8 ++ rowsB l ++ tailB l flt) ++ (fix (tailB l flt).length 4 ++ (fix (QCrc.sum (bodyB l flt)) 4 ++ fix 1768842089 4)):=by
  unfold tblB bodyB; simp only [List.append_assoc]
 have hl : (tblB l flt).length - 12 = (fix (8 + (rowsB l).length + (tailB l flt).length + 12) 8 ++ rowsB l ++ tailB l flt).length:=by
  rw [tblB_length]; simp only [List.length_append, fix_length]; omega
 rw [hl, e, List.drop_left' rfl, List.take_left' (by rw [fix_length])]
theorem tblB_rows (l : List S28) (flt : List Int) : ((tblB l flt).drop 8).take (rowsB l).length = rowsB l := by
 have e : tblB l flt = fix (8 + (rowsB l).length + (tailB l flt).length + 12) 8 ++ (rowsB l ++ (tailB l flt ++ fix (tailB l flt).length 4 ++ fix (QCrc.sum (bodyB l flt)) 4 ++ fix 1768842089 4)):=by
  unfold tblB bodyB; simp only [List.append_assoc]
 rw [e, List.drop_left' (by rw [fix_length]), List.take_left' rfl]
theorem tblB_tail (l : List S28) (flt : List Int) : ((tblB l flt).drop (8 + (rowsB l).length)).take (tailB l flt).length = tailB l flt:=by
 have e : tblB l flt = (fix (8 + (rowsB l).length + (tailB l flt).length + 12) 8 ++ rowsB l) ++ (tailB l flt ++ (fix (tailB l flt).length 4 ++ fix (QCrc.sum (bodyB l flt)) 4 ++ fix 1768842089 4)):=by
  unfold tblB bodyB; simp only [List.append_assoc]
 rw [e, List.drop_left' (by rw [List.length_append, fix_length]), List.take_left' rfl]
end Go.Proofs.Ytenmljkddhonmaa.MTbl

namespace Go.Proofs.Ytenmljkddhonmaa.MTbl
open Go.RowKit Go.Proofs.Ytenmljkddhonmaa.QTbl Go.Proofs.YtenmljkddhonmaaW.PrintWords Go.Proofs.YtenmljkddhonmaaW.PrintLast Go.Proofs.YtenmljkddhonmaaW.PrintMore
set_option linter.unusedVariables false
set_option linter.unusedSimpArgs false
theorem C_dropM {w : World} {A : Option Addr} {c m : Nat} {xs : List Int} (h : Kd.C (Kd.int .u8) w A xs.length xs) (hm : m ≤ xs.length) (hc : xs.length ≤ c) (hmc : m < c) : Kd.C (Kd.int .u8) w (Option.map (fun x=>x.add m) A) (xs.drop m).length (xs.drop m)∧(xs.drop m).length ≤ c - m∧xs.length - m = (xs.drop m).length:=by
 have h2 := Kd.C_drop (m := m) (c := c) h hm hc
 rw [if_neg (by omega)] at h2
 have hsz1 : (Kd.int .u8).sz = 1 := rfl
 simp only [hsz1, Nat.mul_one] at h2
 exact ⟨h2, by rw [List.length_drop]; omega, by rw [List.length_drop]⟩
theorem RdI.start {w W : World} (hw : Below w.heap.size w W) {A : Option Addr} {c n : Nat} {l : List Int} (hn : n = l.length) (hC : Kd.C (Kd.int .u8) w A l.length l) (hc : l.length ≤ c) : RdI w (W.alloc (.cells #[.slice A n c,.bool false] 99)) W.heap.size l false:=by
 subst hn
 exact ⟨hw.size, below_alloc hw _, A, c, heap_new_ W _, hC, hc⟩
/-- Open's state behind i blocks. -/
structure OpS (w wr : World) (gr gt : Nat) (cs : List (List S28)) (flt : List Int) (i : Nat) (Ar : Option Addr) (nr cr : Nat) (vl : Value) : Prop where
 rd : RdI w wr gr ((cs.drop i).flatMap (fun c => put (blk c).length) ++ flt) false
 t : wr.heap[gt]? = some (.cells #[vl, .slice none 0 0, .int .i64 (i : Int)] 101 (0, 0))
 R : Kd.R k28 28 wr w.heap.size (fun _ => True) vl ((cs.take i).flatten)
 hg : w.heap.size ≤ gt
 ln : nr = ((cs.drop i).flatMap blk).length
 C : Kd.C (Kd.int .u8) w Ar ((cs.drop i).flatMap blk).length ((cs.drop i).flatMap blk)
 hc : ((cs.drop i).flatMap blk).length < cr
 by_ : Bytes ((cs.drop i).flatMap (fun c => put (blk c).length) ++ flt)
 bz : Bytes ((cs.drop i).flatMap blk)
 nb : nr < 4000000
set_option maxHeartbeats 4000000 in
set_option maxRecDepth 1000000 in
theorem table_Open_b.calls (A0 : Option Addr) (c0 : Nat) (b : List Int) (w : World) (hr : Kd.C (Kd.int .u8) w A0 b.length b) (hc : b.length ≤ c0) (hl2 : b.length < 4000000) (hb : Bytes b) (hf : firstOK b)
  (cs : List (List S28)) (flt RW TLs : List Int) (R T : Nat) (es : List S28) (hlen : b.length = 8 + R + T + 12) (hfoot : val256 ((b.drop (b.length - 12)).take 4) = T) (hrows : (b.drop 8).take R = RW) (htail : (b.drop (8 + R)).take T = TLs)
  (hRW : RW = cs.flatMap blk) (hTL : TLs = put cs.length ++ (cs.flatMap (fun c=>put (blk c).length) ++ flt)) (hes : es = cs.flatten)
  (hblk : ∀ c ∈ cs,(blk c).length < 2400∧readS (blk c) = some (c.map rowOf)∧(∀ x ∈ c,okB x)∧c.length ≤ 1000) (hfl : flt.length < 1000000) (hcn : cs.length ≤ 1000) (hel : es.length ≤ 1000) (k : Nat) (hm : table_may.f k es = some true) :
  Calls Try.prog 23 #[.slice A0 b.length c0] w fun e w'=>∃ g,e = .returned (.tuple #[.pointer (some ⟨g,0,none⟩),.int .i64 0])∧TabI w' g es flt cs.length∧Below w.heap.size w w':=by
 obtain ⟨hl, hq, h4, h8⟩ := hf
 have p1 : ((b.length : Int) < 20) = False := eq_false (by omega)
 obtain ⟨K, hK⟩ := Get64_ev hb (by omega)
 have HK := Aside0.mk (hK K (Nat.le_refl _))
 rw [hq] at HK
 obtain ⟨K4, hK4⟩ := Get32_ev (l := b.drop (b.length - 4)) (hb.drop _) (by rw [List.length_drop]; omega)
 have HK4 := Aside0.mk (hK4 K4 (Nat.le_refl _))
 rw [h4] at HK4
 obtain ⟨K8, hK8⟩ := Get32_ev (l := b.drop (b.length - 8)) (hb.drop _) (by rw [List.length_drop]; omega)
 have HK8 := Aside0.mk (hK8 K8 (Nat.le_refl _))
 rw [h8] at HK8
 obtain ⟨K12, hK12⟩ := Get32_ev (l := b.drop (b.length - 12)) (hb.drop _) (by rw [List.length_drop]; omega)
 have HK12 := Aside0.mk (hK12 K12 (Nat.le_refl _))
 rw [hfoot] at HK12
 obtain ⟨KS, hKS⟩ := QCrc.Sum_ev (l := b.take (b.length - 8)) (hb.take _) (by rw [List.length_take]; omega)
 have HKS := Aside0.mk (hKS KS (Nat.le_refl _))
 obtain ⟨s, hs⟩ : ∃ s, s = QCrc.sum (b.take (b.length - 8)) := ⟨_, rfl⟩
 rw [← hs] at HKS HK8
 have HR := Aside0.mk hr
 have hwr : IntKind.u64.wrap (b.length : Int) = (b.length : Int) := u64_id (by omega) (by omega)
 have hnb : (((b.length : Nat) : Int) != (b.length : Int)) = false := by simp
 have hsb : (((s : Nat) : Int) != (s : Int)) = false := by simp
 obtain ⟨hC4, xc4, xy4⟩ := C_dropN hr (m := b.length - 4) (by omega) hc
 have HC4 := Aside0.mk hC4
 have hc4 := Aside0.mk xc4
 have hy4 := Aside0.mk xy4
 obtain ⟨hC8, xc8, xy8⟩ := C_dropN hr (m := b.length - 8) (by omega) hc
 have HC8 := Aside0.mk hC8
 have hc8 := Aside0.mk xc8
 have hy8 := Aside0.mk xy8
 obtain ⟨hC12, xc12, xy12⟩ := C_dropN hr (m := b.length - 12) (by omega) hc
 have HC12 := Aside0.mk hC12
 have hc12 := Aside0.mk xc12
 have hy12 := Aside0.mk xy12
 have hyS : Aside0 (b.length - 8 = (b.take (b.length - 8)).length) := ⟨by rw [List.length_take]; omega⟩
 have HCS : Aside0 (Kd.C (Kd.int .u8) w A0 (b.take (b.length - 8)).length (b.take (b.length - 8))):=⟨by rw [← hyS.out];exact (C_takeI hr (m:=b.length - 8) (by omega) hc).2⟩
 have hcS : Aside0 ((b.take (b.length - 8)).length ≤ c0) := ⟨by rw [List.length_take]; omega⟩
 have hTw : IntKind.i64.wrap (T : Int) = (T : Int) := (i64_w _).trans (wrap64_id (by omega) (by omega))
 have HALL:=Aside0.mk (And.intro hrows (And.intro htail (And.intro hRW (And.intro hTL (And.intro hes (And.intro hblk (And.intro hcn (And.intro hel hm))))))))
 have HB := Aside0.mk hb
 have HLEN := Aside0.mk hlen
 have HC0 := Aside0.mk hc
 have hlT : T + 20 ≤ b.length := by omega
 clear hr hK hK4 hK8 hK12 hKS hC4 xc4 xy4 hC8 xc8 xy8 hC12 xc12 xy12 hs h4 h8 hq hfoot hrows htail hRW hTL hes hblk hcn hel hm hb hlen
 go_enter Try.func23, Try.ntmps23
 go_wp2
 go_quiet (first
  | (go_at_call 54;refine Calls.quiet_of (v:=.int .u64 (b.length : Int)) ((varint_Get64.calls K A0 c0 b b.length _ ?hC hc HK.out).mono ?_);(case hC=>exact Kd.C_drewN HR.out _);rintro e w' ⟨rfl,hd⟩;exact ⟨rfl,hd.out⟩)
  | (go_at_call 55;rw [hy4.out];refine Calls.quiet_of (v:=.int .u32 (1768842089 : Int)) ((varint_Get32.calls K4 _ _ (b.drop (b.length - 4)) 1768842089 _ ?hC hc4.out HK4.out).mono ?_);(case hC=>exact Kd.C_drewN HC4.out _);rintro e w' ⟨rfl,hd⟩;exact ⟨rfl,hd.out⟩)
  | (go_at_call 55;rw [hy8.out];refine Calls.quiet_of (v:=.int .u32 (s : Int)) ((varint_Get32.calls K8 _ _ (b.drop (b.length - 8)) s _ ?hC hc8.out HK8.out).mono ?_);(case hC=>exact Kd.C_drewN HC8.out _);rintro e w' ⟨rfl,hd⟩;exact ⟨rfl,hd.out⟩)
  | (go_at_call 53;rw [hyS.out];refine Calls.quiet_of (v:=.int .u32 (s : Int)) ((crc_Sum.calls KS _ _ (b.take (b.length - 8)) s _ ?hC hcS.out HKS.out).mono ?_);(case hC=>exact Kd.C_drewN HCS.out _);rintro e w' ⟨rfl,hd⟩;exact ⟨rfl,hd.out⟩))
 clear HK HK4 HK8 HKS HC4 hc4 hy4 HC8 hc8 hy8 hyS HCS hcS hsb hnb
 go_wp2_with (first
  | (go_at_call 55;rw [hy12.out];refine (varint_Get32.calls K12 _ _ (b.drop (b.length - 12)) T _ ?hC hc12.out HK12.out).mono ?_;(case hC=>exact Kd.C_drewN HC12.out _);rintro e w' ⟨rfl,hd⟩;obtain ⟨m3,hm3⟩:=hd.out;rw [World.drewN_drewN] at hm3;subst hm3;clear hd))
 obtain ⟨hrows, htail, hRW, hTL, hes, hblk, hcn, hel, hm⟩ := HALL.out
 have hlen := HLEN.out
 have e1 : b.length - 12 - T = 8 + R := by omega
 have hTll : TLs.length = T := by rw [← htail, List.length_take, List.length_drop]; omega
 have hRl : RW.length = R := by rw [← hrows, List.length_take, List.length_drop]; omega
 obtain ⟨hCt,hct,hyt⟩:=C_dropM HR.out (m:=b.length - 12 - T) (c:=c0) (by omega) HC0.out (by have:=HC0.out;omega)
 have hCt2 := Kd.C_take hCt (m := T) (by rw [List.length_drop]; omega)
 have hbT : Bytes TLs := by rw [← htail]; exact (HB.out.drop _).take _
 have hbR : Bytes RW := by rw [← hrows]; exact (HB.out.drop _).take _
 obtain ⟨hCr, hcr, hyr⟩ := C_dropM HR.out (m := 8) (c := c0) (by omega) HC0.out (by have := HC0.out; omega)
 have hCr2 := Kd.C_take hCr (m := R) (by rw [List.length_drop]; omega)
 rw [hrows] at hCr2
 rw [show (b.drop (b.length - 12 - T)).take T = TLs by rw [e1]; exact htail] at hCt2
 have HRD0:=RdI.start (w:=w) (W:=w.drewN (nq + m3)) (pw_below_drewN (Below.refl _ _) _) (c:=c0 - (b.length - 12 - T)) (n:=b.length - 12 - (b.length - 12 - T)) (by omega) hCt2 (by have:=HC0.out;omega)
 have HRD1 := HRD0.below (below_alloc (Below.refl _ _) (.cells #[.slice none 0 0, .slice none 0 0, .int .i64 0] 101))
 have HT1:=heap_new_ ((w.drewN (nq + m3)).alloc (.cells #[.slice (Option.map (fun x=>x.add (b.length - 12 - T)) A0) (b.length - 12 - (b.length - 12 - T)) (c0 - (b.length - 12 - T)),.bool false] 99)) (.cells #[.slice none 0 0,.slice none 0 0,.int .i64 0] 101)
 obtain ⟨w2,hw2⟩ : ∃ w2,w2 = ((w.drewN (nq + m3)).alloc (.cells #[.slice (Option.map (fun x=>x.add (b.length - 12 - T)) A0) (b.length - 12 - (b.length - 12 - T)) (c0 - (b.length - 12 - T)),.bool false] 99)).alloc (.cells #[.slice none 0 0,.slice none 0 0,.int .i64 0] 101):=⟨_,rfl⟩
 rw [World.size_alloc] at HT1
 rw [← hw2] at HRD1 HT1 ⊢
 have HRD : RdI w w2 w.heap.size TLs false := HRD1
 have HTT : w2.heap[w.heap.size + 1]? = some (.cells #[.slice none 0 0,.slice none 0 0,.int .i64 0] 101 (0,0)):=HT1
 obtain ⟨Ar, hAr⟩ : ∃ Ar, Ar = Option.map (fun x => ({ block := x.block, off := x.off + 8 } : Addr)) A0 := ⟨_, rfl⟩
 have hCr3 : Kd.C (Kd.int .u8) w Ar RW.length RW := by rw [hAr]; exact hCr2
 rw [← hAr]
 clear HRD0 HRD1 HT1 hw2 hAr hCr2 hCt2 hCr hCt hct hyt hcr hyr
 have hTLn : Bytes (cs.flatMap (fun c => put (blk c).length) ++ flt) := by
  rw [hTL] at hbT; exact fun x hx => hbT x (List.mem_append_right _ hx)
 obtain ⟨KN, hKN⟩ := numF_put (n := cs.length) (by omega) hTLn
 have HKN := Aside0.mk (hKN KN (Nat.le_refl _))
 rw [← hTL] at HKN
 have hOp : ∀ w3 : World,RdI w w3 w.heap.size (cs.flatMap (fun c=>put (blk c).length) ++ flt) false → KeepBut w2 w3 w.heap.size none → OpS w w3 w.heap.size (w.heap.size + 1) cs flt 0 Ar (b.length - 12 - T - 8) (c0 - 8) (.slice none 0 0):=fun w3 h1 h2 =>
  ⟨by rw [List.drop_zero];exact h1,(h2.2 _ (blk_lt HTT) (by omega) (by simp)).trans HTT,Kd.R_nil _ _ _ _ _,by omega,by rw [List.drop_zero,← hRW];omega,by rw [List.drop_zero,← hRW];exact hCr3,by rw [List.drop_zero,← hRW];have:=HC0.out;omega,by rw [List.drop_zero];exact hTLn,by rw [List.drop_zero,← hRW];exact hbR,by omega⟩
 have HOP := Aside0.mk hOp
 have HRDA := Aside0.mk HRD
 have HCS2 := Aside0.mk (And.intro hes (And.intro hblk (And.intro hcn (And.intro hel hm))))
 clear hOp HRD HTT hCr3 hTLn hbT hbR hKN hes hblk hel hm hrows htail hRW hTL hTll hRl e1 hlen HALL hlT HK12 HC12 hc12 hy12 hTw
 refine (varint_Reader_Num.calls KN w.heap.size TLs false 16777216 (cs.length : Int) _ false w w2 HRDA.out HKN.out).mono ?_
 rintro e w3 ⟨rfl, h1, h2⟩
 have HO3 := Aside0.mk (HOP.out w3 h1 h2)
 clear h1 h2 HOP HKN HRDA
 go_wp2_with (fail)
 go_loopg [6,9] cs.length (fun kx s6 s9 wr=>∃ (i : Nat) (Ar : Option Addr) (nr cr : Nat) (vl : Value),s6 = .slice Ar nr cr∧s9 = .int .i64 ((cs.length - i : Nat) : Int)∧i ≤ cs.length∧cs.length - i ≤ kx∧Aside0 (OpS w wr w.heap.size (w.heap.size + 1) cs flt i Ar nr cr vl))
 case atStart => exact ⟨0, Ar, _, _, _, rfl, rfl, Nat.zero_le _, by omega, HO3⟩
 case round =>
  clear HO3
  obtain ⟨i, Ar, nr, cr, vl, rfl, rfl, hie, hik, HO⟩ := hrel
  have hne : ¬ w.heap.size = w.heap.size + 1 := by omega
  obtain ⟨_, _, A1, c1, hb1, hC1, hcc1⟩ := HO.out.rd
  have zb : wr.cell? ⟨w.heap.size, 1, none⟩ = some (.bool false) := (blk_cell hb1 1).trans rfl
  by_cases hi : i < cs.length
  ·cases gk with
   | zero => omega
   | succ k1 =>
   have hdr : cs.drop i = cs[i] :: cs.drop (i + 1) := List.drop_eq_getElem_cons hi
   have hcm : cs[i] ∈ cs := List.getElem_mem hi
   obtain ⟨hq1, hq2, hq3, hq4⟩ := HCS2.out.2.1 _ hcm
   have htk : (cs.take (i + 1)).flatten = (cs.take i).flatten ++ cs[i]:=by rw [List.take_succ_eq_append_getElem hi,List.flatten_append];simp
   have HRDc := HO.out.rd
   have hby := HO.out.by_
   have hbz := HO.out.bz
   have hnr := HO.out.ln
   have hnb := HO.out.nb
   have hCc := HO.out.C
   have hcc := HO.out.hc
   rw [hdr, List.flatMap_cons] at HRDc hby hbz hnr hCc hcc
   have HT := Aside0.mk HO.out.t
   have HRv := Aside0.mk HO.out.R
   have HTK := Aside0.mk htk
   have hfl2 : (cs.flatten).length = ((cs.take i).flatten).length + ((cs.drop i).flatten).length := by
    rw [← List.length_append, ← List.flatten_append, List.take_append_drop]
   have HTL : Aside0 (((cs.take i).flatten).length ≤ 1000) := ⟨by
    have h1 := HCS2.out.2.2.2.1
    rw [HCS2.out.1] at h1
    omega⟩
   clear hfl2
   obtain ⟨bc, hbc⟩ : ∃ bc, bc = blk cs[i] := ⟨_, rfl⟩
   obtain ⟨RS, hRS⟩ : ∃ RS, RS = (cs.drop (i + 1)).flatMap blk := ⟨_, rfl⟩
   obtain ⟨PS, hPS⟩ : ∃ PS, PS = (cs.drop (i + 1)).flatMap (fun c => put (blk c).length) ++ flt := ⟨_, rfl⟩
   rw [List.append_assoc, ← hPS, ← hbc] at HRDc hby
   rw [← hRS, ← hbc] at hbz hnr hCc hcc
   rw [← hbc] at hq1 hq2
   have hPSb : Bytes PS := fun x hx => hby x (List.mem_append_right _ hx)
   have hRSb : Bytes RS := fun x hx => hbz x (List.mem_append_right _ hx)
   have hbcb : Bytes bc := fun x hx => hbz x (List.mem_append_left _ hx)
   obtain ⟨KN, hKN⟩ := numF_put (n := bc.length) (by omega) hPSb
   have HKN := Aside0.mk (hKN KN (Nat.le_refl _))
   have hlen : (bc ++ RS).length = bc.length + RS.length := List.length_append
   have hCb := (C_takeI hCc (c := cr) (m := bc.length) (by omega) (by omega)).2
   rw [List.take_left] at hCb
   obtain ⟨hCd, _, hyd⟩ := C_dropM hCc (c := cr) (m := bc.length) (by omega) (by omega) (by omega)
   rw [List.drop_left] at hCd hyd
   have HE:=Aside0.mk (fun w' (h : Below w.heap.size w w')=>table_entries.calls Ar cr bc cs[i] w' (Kd.C_below hCb h) (by omega) hbcb (by omega) hq2 hq3 (by omega))
   have HNEXT : Aside0 (∀ (w6 : World) (v1 : Value),RdI w w6 w.heap.size PS false → w6.heap[w.heap.size + 1]? = some (.cells #[v1,.slice none 0 0,.int .i64 ((i + 1 : Nat) : Int)] 101 (0,0)) → Kd.R k28 28 w6 w.heap.size (fun _=>True) v1 ((cs.take i).flatten ++ cs[i]) → OpS w w6 w.heap.size (w.heap.size + 1) cs flt (i + 1) (Option.map (fun x=>x.add bc.length) Ar) (nr - bc.length) (cr - bc.length) v1):=⟨fun w6 v1 h1 h2 h3=>⟨by rw [← hPS];exact h1,h2,by rw [htk];exact h3,by omega,by rw [← hRS];omega,by rw [← hRS];exact hCd,by rw [← hRS];omega,by rw [← hPS];exact hPSb,by rw [← hRS];exact hRSb,by omega⟩⟩
   have HRDA := Aside0.mk HRDc
   have HNG := Aside0.mk (Kd.R_ne HO.out.R hb1 (by decide))
   have zt : wr.cell? ⟨w.heap.size + 1, 0, none⟩ = some vl := (blk_cell HT.out 0).trans rfl
   have p1 : ((0 : Int) < ((cs.length - i : Nat) : Int)) = True := eq_true (by omega)
   have p2 : ((nr : Int) < (bc.length : Int)) = False := eq_false (by omega)
   have p3 : ((0 : Int) ≤ (bc.length : Int)) = True := eq_true (by omega)
   have p4 : ((bc.length : Int) ≤ (nr : Int)) = True := eq_true (by omega)
   have hnrl : bc.length ≤ nr := by omega
   have hncr : nr < cr := by omega
   have hbcl : bc.length < 2400 := hq1
   have HQ4 := Aside0.mk hq4
   clear hdr hcm hq1 hq2 hq3 hq4 htk HRDc hby hbz hnr hCc hcc hbc hRS hPS hPSb hRSb hbcb hKN hlen hCb hCd hyd HO hC1 hcc1 hb1
   go_wp2_with (first
    | (go_at_call 56;refine (varint_Reader_Num.calls KN w.heap.size _ false 16777216 (bc.length : Int) _ false w wr HRDA.out HKN.out).mono ?_;rintro e w4 ⟨rfl,h1,h2⟩;have HR4:=Aside0.mk h1;have HT4:=Aside0.mk ((h2.2 _ (blk_lt HT.out) (by omega) (by simp)).trans HT.out);have HV4:=Aside0.mk (e28_step HRv.out (fun k hk=>h2.2 k (Kd.R_lt HRv.out k hk) (fun e=>HNG.out (by rw [hk,e])) (by simp)));clear h1 h2)
    | (go_at_call 57;refine (HE.out w4 HR4.out.2.1).mono ?_;rintro e w5 ⟨v5,rfl,h1,h2⟩;obtain ⟨A5,c5,e5⟩:=Kd.R_slice h1;obtain ⟨n5,hn5⟩ : ∃ n5,Aside0 (n5 = (cs[i]).length):=⟨_,⟨rfl⟩⟩;rw [← hn5.out] at e5;subst e5;have HX5:=Aside0.mk h1;have HR5:=Aside0.mk (HR4.out.below h2);have HT5:=Aside0.mk (blk_below HT4.out h2);have HV5:=Aside0.mk (Kd.R_below HV4.out h2);have ht5 : w5.cell? ⟨w.heap.size + 1,0,none⟩ = some vl:=(blk_cell (blk_below HT4.out h2) 0).trans rfl;clear h1 h2))
   go_region_law (first
    | (refine Kd.R_append_rows_step k28 (w0:=w) w.heap.size (by rfl) (.tmp 107) (.tmp 108) 24 28 (.agg #[(.string ⟨#[]⟩),(.int .i64 0),(.int .i64 0),(.string ⟨#[]⟩),(.string ⟨#[]⟩)]) 64 rfl Try.underlying24 info28 rfl (by decide) (by omega) vl ((cs.take i).flatten) cs[i] A5 n5 c5 (fun _=>True) (fun _=>False) (by rfl) (by rfl) ?aO ?aR (fun _ _ h=>h) (fun _ h=>h.elim) ?aF ?aB ?aS ?aL ?_;(case aO=>exact Kd.R_drew HV5.out);(case aR=>exact Kd.C_drew (by have h_:=Kd.R_reads' HX5.out;rw [h_.1];exact h_.2.2));(case aF=>exact fun _ _=>trivial);(case aB=>exact below_drew1 HR5.out.2.1);(case aS=>exact (below_drew1 HR5.out.2.1).size);(case aL=>have h1_:=HTL.out;have h2_:=hn5.out;have h3_:=HQ4.out;omega);intro v1 w6 ho hb hg hat;obtain ⟨A6,c6,e6⟩:=Kd.R_slice ho;obtain ⟨n6,hn6⟩ : ∃ n6,Aside0 (n6 = ((cs.take i).flatten ++ cs[i]).length):=⟨_,⟨rfl⟩⟩;rw [← hn6.out] at e6;subst e6;have HV6:=Aside0.mk ho;have HB6:=Aside0.mk hb;have t6:=(hg.block (w.heap.size + 1) (blk_lt HT5.out) (fun e=>(Kd.R_ne HV5.out HT5.out (by decide)) e)).trans HT5.out;have HT6:=Aside0.mk t6;have HR6:=Aside0.mk (HR5.out.step hb (hg.block w.heap.size (by have:=blk_lt HT5.out;show w.heap.size < w5.heap.size;omega) HNG.out));have y6 : w6.cell? ⟨w.heap.size + 1,0,none⟩ = some vl:=(blk_cell t6 0).trans rfl;have y62 : w6.cell? ⟨w.heap.size + 1,2,none⟩ = some (.int .i64 (i : Int)):=(blk_cell t6 2).trans rfl;have f60:=blk_frozen t6 0;have f62:=blk_frozen t6 2;clear ho hb hg hat t6))
   all_goals go_wp2
   all_goals go_roundg k1
   case measure => omega
   case rel =>
    refine ⟨i + 1,_,_,_,.slice A6 n6 c6,rfl,by rw [show ((cs.length - i : Nat) : Int) - 1 = ((cs.length - (i + 1) : Nat) : Int) by omega],by omega,by omega,⟨HNEXT.out _ _ ?_ ?_ ?_⟩⟩
    ·exact HR6.out.step (below_set0 (below_set0 HB6.out (by omega)) (by omega)) (by rw [Below.heap_setCell _ _ _ _ (by show w.heap.size ≠ w.heap.size + 1;omega),Below.heap_setCell _ _ _ _ (by show w.heap.size ≠ w.heap.size + 1;omega)])
    ·rw [show ((i : Int) + 1) = ((i + 1 : Nat) : Int) by omega]
     exact blk_put (blk_put HT6.out 0 _ rfl) 2 _ rfl
    ·have hne6 : some (w.heap.size + 1) ≠ Value.ownBlock (.slice A6 n6 c6) := Kd.R_ne HV6.out HT6.out (by decide)
     exact e28_step HV6.out (fun k hk=>by rw [Below.heap_setCell _ _ _ _ (fun e=>hne6 (by rw [hk,e])),Below.heap_setCell _ _ _ _ (fun e=>hne6 (by rw [hk,e]))])
  ·have hie2 : i = cs.length := by omega
   subst hie2
   have HT := Aside0.mk HO.out.t
   have HRv := HO.out.R
   have HRD := HO.out.rd
   have hnr := HO.out.ln
   rw [List.drop_length] at HRD hnr
   rw [List.flatMap_nil, List.nil_append] at HRD
   rw [List.flatMap_nil, List.length_nil] at hnr
   subst hnr
   rw [List.take_length, ← HCS2.out.1] at HRv
   obtain ⟨Av, cv, ev⟩ := Kd.R_slice HRv
   subst ev
   have HV := Aside0.mk (Kd.R_reads' HRv).2
   obtain ⟨h1_, HBW, A1, c1, hb1, hC1, hcc1⟩ := HRD
   have HBW := Aside0.mk HBW
   have z0 : wr.cell? ⟨w.heap.size, 0, none⟩ = some (.slice A1 flt.length c1) := (blk_cell hb1 0).trans rfl
   have y0 : wr.cell? ⟨w.heap.size + 1, 0, none⟩ = some (.slice Av es.length cv) := (blk_cell HT.out 0).trans rfl
   have y1 : wr.cell? ⟨w.heap.size + 1, 1, none⟩ = some (.slice none 0 0) := (blk_cell HT.out 1).trans rfl
   have fy1 := blk_frozen HT.out 1
   have HB1 := Aside0.mk hb1
   have HCL := Aside0.mk (And.intro (Kd.C_below hC1 HBW.out) hcc1)
   have hm := Aside0.mk HCS2.out.2.2.2.2
   have z1 : wr.cell? ⟨w.heap.size, 1, none⟩ = some (.bool false) := zb
   have HRV := Aside0.mk HRv
   clear HO h1_ hb1 hC1 hcc1 HRv
   go_wp2_with (first
    | (go_at_call 58;refine (cloneB.calls A1 c1 flt wr HCL.out.1 HCL.out.2 (by omega)).mono ?_;rintro e w4 ⟨v0,rfl,hR,hb⟩;obtain ⟨A4,c4,e4⟩:=Kd.R_slice hR;obtain ⟨n4,hn4⟩ : ∃ n4,Aside0 (n4 = flt.length):=⟨_,⟨rfl⟩⟩;rw [← hn4.out] at e4;subst e4;have HF4:=Aside0.mk hR;have HB4:=Aside0.mk (below_step HBW.out hb);have HT4:=Aside0.mk (blk_below HT.out hb);have HV4:=Aside0.mk (Kd.R_below HRV.out hb);have q0 : w4.cell? ⟨w.heap.size + 1,0,none⟩ = some (.slice Av es.length cv):=(blk_cell HT4.out 0).trans rfl;have q1 : w4.cell? ⟨w.heap.size + 1,1,none⟩ = some (.slice none 0 0):=(blk_cell HT4.out 1).trans rfl;have fq1:=blk_frozen HT4.out 1;have qz : w4.cell? ⟨w.heap.size,1,none⟩ = some (.bool false):=(blk_cell (blk_below HB1.out hb) 1).trans rfl;clear hR hb)
    | (go_at_call 40;have hX5:=(e28_step (w1:=w4.setCell ⟨w.heap.size + 1,1,none⟩ (.slice A4 n4 c4)) HV4.out (fun k hk=>Below.heap_setCell _ _ _ _ (fun e=>(Kd.R_ne HV4.out HT4.out (by decide)) (by rw [hk,e]))));have hX6:=(Kd.R_reads' hX5);refine (table_may.calls k Av cv es true _ hX6.2.2 hX6.2.1 hm.out).mono ?_;rintro e w5 ⟨rfl,hb⟩;have HX5:=Aside0.mk hX5;have HB5:=Aside0.mk hb;clear hX5 hX6 hb))
   go_ret2
   refine ⟨w.heap.size + 1, rfl, ⟨Av, cv, A4, c4, ?_, ?_, ?_, ?_, ?_⟩, ?_⟩
   ·rw [← hn4.out]; exact blk_below (blk_put HT4.out 1 _ rfl) HB5.out
   ·exact (Kd.R_reads' (Kd.R_below HX5.out HB5.out)).2.2
   ·exact (Kd.R_reads' HX5.out).2.1
   ·have hne4 : some (w.heap.size + 1) ≠ Value.ownBlock (.slice A4 n4 c4) := Kd.R_ne HF4.out HT4.out (by decide)
    have h_:=Kd.R_reads' (Kd.R_below (u8_step (w1:=w4.setCell ⟨w.heap.size + 1,1,none⟩ (.slice A4 n4 c4)) HF4.out (fun k hk=>Below.heap_setCell _ _ _ _ (fun e=>hne4 (by rw [hk,e])))) HB5.out)
    exact h_.2.2
   ·rw [← hn4.out]; exact (Kd.R_reads' HF4.out).2.1
   ·exact below_step (below_set0 HB4.out (by omega)) HB5.out
end Go.Proofs.Ytenmljkddhonmaa.MTbl

namespace Go.Proofs.Ytenmljkddhonmaa.MTbl
open Go.RowKit Go.Proofs.Ytenmljkddhonmaa.QTbl Go.Proofs.YtenmljkddhonmaaW.PrintWords Go.Proofs.YtenmljkddhonmaaW.PrintLast Go.Proofs.YtenmljkddhonmaaW.PrintMore
set_option linter.unusedVariables false
set_option linter.unusedSimpArgs false
/-! Built and opened -/
theorem FltOK_ofB (es : List S28) (flt : List Int) (h : ∀ s : ByteArray,s.size ≤ maxLen → ∃ rb,Ev (fun k=>bloom_May.f k flt s) rb∧(s ∈ compB (es.map S28.f0) → rb = true)) : FltOK flt es:=by
 intro s hs
 obtain ⟨rb, h1, h2⟩ := h s hs
 refine ⟨rb, h1, fun hf x hx he => ?_⟩
 have hxs : x.f0 = s := by rw [Lib.toList_data, Lib.toList_data] at he; exact ByteArray.ext (Array.toList_inj.1 he)
 rw [h2 (mem_compB.2 (List.mem_map.2 ⟨x, hx, hxs⟩))] at hf
 cases hf
structure Tab (l : List S28) (flt : List Int) : Prop where
 ok : FltOK flt l
 fl : flt.length ≤ 2 * l.length + 20
 bytes : Bytes (tblB l flt)
 first : firstOK (tblB l flt)
 len : (tblB l flt).length < 4000000
 build : ∀ (A : Option Addr) (c : Nat) (w : World),Kd.C k28 w A l.length l → l.length ≤ c → Calls Try.prog 22 #[.slice A l.length c] w fun e w'=>∃ v,e = .returned (.tuple #[v,.int .i64 0])∧Kd.R (Kd.int .u8) 5 w' w.heap.size (fun _=>True) v (tblB l flt)∧Below w.heap.size w w'
 opn : ∀ (A : Option Addr) (c : Nat) (w : World),Kd.C (Kd.int .u8) w A (tblB l flt).length (tblB l flt) → (tblB l flt).length ≤ c → Calls Try.prog 23 #[.slice A (tblB l flt).length c] w fun e w'=>∃ g,e = .returned (.tuple #[.pointer (some ⟨g,0,none⟩),.int .i64 0])∧TabI w' g l flt (cutB [] l).length∧Below w.heap.size w w'
theorem Tab.of {l : List S28} (hne : l ≠ []) (hl : l.length ≤ 1000) (hs : l.Pairwise srtR) (ho : ∀ x ∈ l,okB x) (hM : mayL none l = true) : ∃ flt,Tab l flt:=by
 obtain ⟨flt,e1,e2,e3,e4⟩:=flt_ok (compB (l.map S28.f0)) (by have:=compB_length (l.map S28.f0);rw [List.length_map] at this;omega) (fun x hx=>by
  obtain ⟨y, hy, rfl⟩ := List.mem_map.1 (mem_compB.1 hx)
  have := (ho y hy).1.2.2; omega)
 have hcl : (compB (l.map S28.f0)).length ≤ l.length:=by have:=compB_length (l.map S28.f0);rwa [List.length_map] at this
 have hfl : flt.length ≤ 2 * l.length + 20 := by
  rw [e2]
  unfold sizeM
  split <;> omega
 obtain ⟨K0, hK0⟩ := e1
 obtain ⟨k, hk⟩ := may_ev l (by omega)
 have hpos : 0 < l.length := List.length_pos_iff.2 hne
 have hm : table_may.f k l = some true := by
  have h1 : table_may.f k l = some (mayL none l && decide ((l.length : Int) > 0)) := hk k (Nat.le_refl _)
  rw [h1, hM, decide_eq_true (by omega)]; rfl
 obtain ⟨hb1, hb2⟩ := tblB_bytes hne hl ho e3
 have hrl := rowsB_length hl ho
 have hcn := cutB_length_le l []
 have hsz : (sizesB l).length ≤ 10 * (cutB [] l).length := by
  have:=flatMap_length_le (fun c=>put (blk c).length) 10 (cutB [] l) (fun c hc=>by have:=blk_length ho hc;exact put_length10 (by omega))
  unfold sizesB; omega
 have hpl := put_length10 (n := (cutB [] l).length) (by omega)
 have htl : (tailB l flt).length = (put (cutB [] l).length).length + (sizesB l).length + flt.length:=by unfold tailB;simp only [List.length_append]
 have hlen := tblB_length l flt
 have hblk : ∀ c ∈ cutB [] l,(blk c).length < 2400∧readS (blk c) = some (c.map rowOf)∧(∀ x ∈ c,okB x)∧c.length ≤ 1000:=fun c hc=>by
  have hcm : ∀ x ∈ c, okB x := fun x hx => ho x (cutB_mem hne hc hx)
  have hcl : c.length ≤ 1000 := by
   have h1 := cutB_flat l [] hne
   rw [List.nil_append] at h1
   have h2 : c.length ≤ ((cutB [] l).flatten).length := (List.sublist_flatten_of_mem hc).length_le
   rw [h1] at h2
   omega
  exact ⟨blk_length ho hc, blk_read (cutB_sorted hne hs hc) hcm hcl, hcm, hcl⟩
 have hfirst := tblB_first (flt := flt) hb1 (by omega)
 refine ⟨flt, FltOK_ofB l flt e4, hfl, hb2, hfirst, by omega, fun A c w hr hc => ?_, fun A c w hr hc => ?_⟩
 ·exact table_Build.calls k A c l w hr hc hm hne hl hs ho flt K0 (hK0 K0 (Nat.le_refl _)) (by omega) e3
 ·have hfoot : val256 (((tblB l flt).drop ((tblB l flt).length - 12)).take 4) = (tailB l flt).length := by
   rw [tblB_foot, val256_fix]
   exact Nat.mod_eq_of_lt (by omega)
  exact table_Open_b.calls A c (tblB l flt) w hr hc (by omega) hb2 hfirst (cutB [] l) flt (rowsB l) (tailB l flt) _ _ l hlen hfoot (tblB_rows l flt) (tblB_tail l flt) rfl (by unfold tailB sizesB;rw [List.append_assoc]) (by have:=cutB_flat l [] hne;rw [List.nil_append] at this;exact this.symm) hblk (by omega) (by omega) hl k hm
end Go.Proofs.Ytenmljkddhonmaa.MTbl

namespace Go.Proofs.Ytenmljkddhonmaa.MTbl
open Go.RowKit Go.Proofs.Ytenmljkddhonmaa.QTbl Go.Proofs.YtenmljkddhonmaaW.PrintWords Go.Proofs.YtenmljkddhonmaaW.PrintLast Go.Proofs.YtenmljkddhonmaaW.PrintMore
set_option linter.unusedVariables false
set_option linter.unusedSimpArgs false
theorem flatten_get {α : Type} (sz : Nat) : ∀ (css : List (List α)) (j i : Nat) (c : List α),(∀ c ∈ css,c.length = sz) → css[j]? = some c → i < sz → css.flatten[j * sz + i]? = c[i]?
 | [], j, i, c, _, h, _ => by cases h
 | d :: css, 0, i, c, hs, h, hi => by
  injection h with h
  subst h
  rw [List.flatten_cons,Nat.zero_mul,Nat.zero_add,List.getElem?_append_left (by rw [hs d List.mem_cons_self];exact hi)]
 | d :: css, j + 1, i, c, hs, h, hi => by
  have hd := hs d List.mem_cons_self
  rw [List.flatten_cons,List.getElem?_append_right (by rw [hd,Nat.succ_mul];omega),hd,show (j + 1) * sz + i - sz = j * sz + i by rw [Nat.succ_mul];omega]
  exact flatten_get sz css j i c (fun c hc => hs c (List.mem_cons_of_mem _ hc)) (by simpa using h) hi
/-- A row that was laid by a literal. -/
theorem lits_C {α : Type} {d : Kd α} {w : World} {g t : Nat} {cs : Array Value} (css : List (List Value)) {xs : List α} (h : w.heap[g]? = some (.cells cs t (0,0))) (he : cs = css.flatten.toArray) (hl : css.length = xs.length) (hs : ∀ c ∈ css,c.length = d.sz) (hK : ∀ (j : Nat) p c,xs[j]? = some p → css[j]? = some c → d.K w p c) (hm : xs.length ≤ 9223372036854775807) : d.C w (some ⟨g,0,none⟩) xs.length xs:=by
 refine ⟨rfl, hm, fun _ => ⟨⟨g, 0, none⟩, rfl, fun j p hj => ?_⟩⟩
 have hjl := (List.getElem?_eq_some_iff.1 hj).1
 have hc := List.getElem?_eq_getElem (l := css) (i := j) (by omega)
 refine ⟨css[j]'(by omega), hs _ (List.getElem_mem _), hK j p _ hj hc, fun i u hu => ?_⟩
 rw [add_plain, blk_cell h, he, List.getElem?_toArray]
 rw [flatten_get d.sz css j i _ hs hc (by have:=(List.getElem?_eq_some_iff.1 hu).1;rw [hs _ (List.getElem_mem _)] at this;exact this)]
 exact hu
def c5 (x : S28) : List Value := [.string x.f0, .int .i64 x.f1, .int .i64 x.f2, .string x.f3, .string x.f4]
theorem lits28 {w : World} {g t : Nat} {cs : Array Value} {xs : List S28} (h : w.heap[g]? = some (.cells cs t (0,0))) (he : cs = (xs.map c5).flatten.toArray) (hm : xs.length ≤ 9223372036854775807) : Kd.C k28 w (some ⟨g,0,none⟩) xs.length xs:=by
 refine lits_C (xs.map c5) h he (by simp) (fun c hc => ?_) (fun j p c hj hc => ?_) hm
 ·obtain ⟨x, _, rfl⟩ := List.mem_map.1 hc
  rfl
 ·rw [List.getElem?_map, hj] at hc
  injection hc with hc
  subst hc
  exact k28_mk w p
def eB : S28 := ⟨⟨#[97]⟩, 2, 1, ⟨#[97]⟩, ⟨#[118]⟩⟩
theorem eB_ok : okB eB := ⟨⟨⟨by decide, by decide⟩, .inr rfl, by decide⟩, by decide, by decide⟩
theorem eB_find : eB = (rfind ⟨#[97]⟩ 9 [eB]).getD z28 := by kernel_rfl
theorem eB_some : true = (rfind ⟨#[97]⟩ 9 [eB]).isSome := by kernel_rfl
theorem eB_tab : ∃ flt,Tab [eB] flt:=Tab.of (by simp) (by simp) (List.pairwise_singleton _ _) (fun x hx=>by rw [List.mem_singleton.1 hx];exact eB_ok) (by decide +kernel)
theorem may_nil : ∃ k, table_may.f k [] = some false := by
 obtain ⟨k, hk⟩ := may_ev [] (by simp)
 exact ⟨k, by have h1 := hk k (Nat.le_refl _); exact h1⟩
theorem eB_get (w3 : World) (g : Nat) (flt : List Int) (bl : Nat) (hI : TabI w3 g [eB] flt bl) (hF : FltOK flt [eB]) : Calls Try.prog 24 #[.pointer (some ⟨g,0,none⟩),.string ⟨#[97]⟩,.int .i64 9] w3 fun e w'=>e = .returned (.tuple #[.agg #[.string ⟨#[97]⟩,.int .i64 2,.int .i64 1,.string ⟨#[97]⟩,.string ⟨#[118]⟩],.bool true,.int .i64 0])∧Below w3.heap.size w3 w' :=
 table_GetS.calls w3 g [eB] flt bl ⟨#[97]⟩ 9 eB true hI (by decide) (List.pairwise_singleton _ _) hF (by decide) eB_find eB_some
theorem eB_nil (k : Nat) (hk : table_may.f k [] = some false) (w : World) : Calls Try.prog 22 #[.slice none 0 0] w fun e w'=>e = .returned (.tuple #[.slice none 0 0,.int .i64 12])∧Below w.heap.size w w' :=
 table_Build_no.calls k none 0 [] w (Kd.C_nil _ _) (Nat.le_refl _) hk
theorem eB_len (w : World) (g : Nat) (flt : List Int) (bl : Nat) (hI : TabI w g [eB] flt bl) : Calls Try.prog 26 #[.pointer (some ⟨g,0,none⟩)] w fun e w'=>e = .returned (.int .i64 1)∧w' = w:=table_Len.calls w g [eB] flt bl hI
theorem eB_blocks (w : World) (g : Nat) (flt : List Int) (hI : TabI w g [eB] flt 1) : Calls Try.prog 27 #[.pointer (some ⟨g,0,none⟩)] w fun e w'=>e = .returned (.int .i64 1)∧w' = w:=table_Blocks.calls w g [eB] flt 1 hI
theorem beg_data : ∃ (tb flt : List Int) (l : List S28),
  (∀ w : World,Calls Try.prog 22 #[.slice (some ⟨w.heap.size,0,none⟩) 1 1] (w.alloc (.cells #[.string ⟨#[97]⟩,.int .i64 2,.int .i64 1,.string ⟨#[97]⟩,.string ⟨#[118]⟩] 28)) fun e w'=>∃ v,e = .returned (.tuple #[v,.int .i64 0])∧Kd.R (Kd.int .u8) 5 w' w.heap.size (fun _=>True) v tb∧Below w.heap.size w w')
  ∧ (∀ (A : Option Addr) (c : Nat) (w : World),Kd.C (Kd.int .u8) w A tb.length tb → tb.length ≤ c → Calls Try.prog 23 #[.slice A tb.length c] w fun e w'=>∃ g,e = .returned (.tuple #[.pointer (some ⟨g,0,none⟩),.int .i64 0])∧TabI w' g l flt 1∧Below w.heap.size w w')
  ∧ (∀ (w3 : World) (g : Nat),TabI w3 g l flt 1 → Calls Try.prog 24 #[.pointer (some ⟨g,0,none⟩),.string ⟨#[97]⟩,.int .i64 9] w3 fun e w'=>e = .returned (.tuple #[.agg #[.string ⟨#[97]⟩,.int .i64 2,.int .i64 1,.string ⟨#[97]⟩,.string ⟨#[118]⟩],.bool true,.int .i64 0])∧Below w3.heap.size w3 w')
  ∧ (∀ (w : World),Calls Try.prog 22 #[.slice none 0 0] w fun e w'=>e = .returned (.tuple #[.slice none 0 0,.int .i64 12])∧Below w.heap.size w w')
  ∧ (∀ (w : World) (g : Nat),TabI w g l flt 1 → Calls Try.prog 26 #[.pointer (some ⟨g,0,none⟩)] w fun e w'=>e = .returned (.int .i64 1)∧w' = w)
  ∧ (∀ (w : World) (g : Nat),TabI w g l flt 1 → Calls Try.prog 27 #[.pointer (some ⟨g,0,none⟩)] w fun e w'=>e = .returned (.int .i64 1)∧w' = w):=by
 obtain ⟨flt, HT⟩ := eB_tab
 obtain ⟨k, hk⟩ := may_nil
 have hbl : (cutB [] [eB]).length = 1 := by simp [cutB]
 refine ⟨tblB [eB] flt,flt,[eB],fun w=>?_,fun A c w h1 h2=>?_,fun w3 g hI=>eB_get w3 g flt 1 hI HT.ok,fun w=>eB_nil k hk w,fun w g hI=>eB_len w g flt 1 hI,fun w g hI=>eB_blocks w g flt hI⟩
 ·refine (HT.build (some ⟨w.heap.size,0,none⟩) 1 (w.alloc (.cells #[.string ⟨#[97]⟩,.int .i64 2,.int .i64 1,.string ⟨#[97]⟩,.string ⟨#[118]⟩] 28)) (lits28 (xs:=[eB]) (heap_new_ w _) rfl (by decide)) (by decide)).mono ?_
  rintro e w' ⟨v, rfl, h1, h2⟩
  exact ⟨v, rfl, Kd.R_lower h1 (by simp), below_step (below_alloc (Below.refl _ w) _) h2⟩
 ·have := HT.opn A c w h1 h2
  rw [hbl] at this
  exact this
set_option maxHeartbeats 1000000 in
set_option maxRecDepth 1000000 in
theorem law_begun.calls (w : World) : Calls Try.prog 20 #[] w fun e w'=>e = .returned (.bool true)∧Below w.heap.size w w':=by
 have hu28 := Try.underlying28
 obtain ⟨tb, flt, l, hbuild, hopen, hget, hnil, hlen, hblocks⟩ := beg_data
 have HD1 := Aside0.mk hbuild
 have HD2 := Aside0.mk hopen
 have HD3 := Aside0.mk hget
 have HD4 := Aside0.mk hnil
 have HD5 := Aside0.mk hlen
 have HD6 := Aside0.mk hblocks
 clear hbuild hopen hget hnil hlen hblocks
 go_enter Try.func20, Try.ntmps20
 go_wp2_with (first
  | (go_at_call 22;(with_reducible refine (HD1.out w).mono ?_);rintro e w2 ⟨v,rfl,hR,hb⟩;obtain ⟨A2,c2,e2⟩:=Kd.R_slice hR;subst e2;have hX:=Kd.R_reads' hR;have HO2:=Aside0.mk (HD2.out A2 c2 w2 hX.2.2 hX.2.1);generalize tb.length = n2 at *;have HB2:=Aside0.mk hb;clear hR hb hX)
  | (go_at_call 23;refine HO2.out.mono ?_;rintro e w3 ⟨g,rfl,hI,hb⟩;have HI3:=Aside0.mk hI;have HB3:=Aside0.mk (below_step HB2.out hb);clear hI hb)
  | (go_at_call 24;refine (HD3.out w3 g HI3.out).mono ?_;rintro e w4 ⟨rfl,hb⟩;have HI4:=Aside0.mk (HI3.out.below hb);have HB4:=Aside0.mk (below_step HB3.out hb);clear hb)
  | (go_at_call 22;(with_reducible refine (HD4.out _).mono ?_);rintro e w5 ⟨rfl,hb⟩;have hx5:=blk_below (heap_new_ w4 (.cells #[.string ⟨#[97]⟩,.int .i64 2,.int .i64 1,.string ⟨#[97]⟩,.string ⟨#[118]⟩] 28)) hb;have y4 : w5.cell? ⟨w4.heap.size,4,none⟩ = some (.string ⟨#[118]⟩):=(blk_cell hx5 4).trans rfl;have HI5:=Aside0.mk ((HI4.out.below (below_alloc (Below.refl _ w4) _)).below hb);have HB5:=Aside0.mk (below_step (below_alloc HB4.out _) hb);clear hb hx5)
  | (go_at_call 26; refine (HD5.out _ g HI5.out).mono ?_; rintro e w6 ⟨rfl, rfl⟩)
  | (go_at_call 27; refine (HD6.out _ g HI5.out).mono ?_; rintro e w6 ⟨rfl, rfl⟩))
 go_ret
 exact ⟨rfl, HB5.out⟩
end Go.Proofs.Ytenmljkddhonmaa.MTbl

namespace Go.Proofs.Ytenmljkddhonmaa.MTbl
open Go.RowKit Go.Proofs.Ytenmljkddhonmaa.QTbl Go.Proofs.YtenmljkddhonmaaW.PrintWords Go.Proofs.YtenmljkddhonmaaW.PrintLast Go.Proofs.YtenmljkddhonmaaW.PrintMore
set_option linter.unusedVariables false
set_option linter.unusedSimpArgs false
theorem open_nil.calls (w : World) : Calls Try.prog 23 #[.slice none 0 0] w fun e w'=>e = .returned (.tuple #[.pointer none,.int .i64 8])∧Below w.heap.size w w':=table_Open_short.calls none 0 [] w (by decide)
set_option maxHeartbeats 1000000 in
set_option maxRecDepth 1000000 in
theorem incipitlaw17_TableNone.calls (w : World) : Calls Try.prog 11 #[] w fun e w'=>e = .returned (.bool true)∧Below w.heap.size w w':=by
 have hu28 := Try.underlying28
 have HB0 := Aside0.mk (Below.refl w.heap.size w)
 go_enter Try.func11, Try.ntmps11
 go_wp2_with (first
  | (go_at_call 24;(with_reducible refine (table_Get_nil.calls _ _ _).mono ?_);rintro e w2 ⟨rfl,hb⟩;have HB2:=Aside0.mk (below_alloc (below_step HB0.out hb) (.cells #[.string ⟨#[]⟩,.int .i64 0,.int .i64 0,.string ⟨#[]⟩,.string ⟨#[]⟩] 28));clear hb)
  | (go_at_call 31; (with_reducible refine (table_All_nil.calls _).mono ?_); rintro e w3 ⟨rfl, rfl⟩)
  | (go_at_call 28;(with_reducible refine (table_From_nil.calls _ _).mono ?_);rintro e w4 ⟨rfl,hb⟩;have HB4:=Aside0.mk (below_step HB2.out hb);clear hb)
  | (go_at_call 23;(with_reducible refine (open_nil.calls _).mono ?_);rintro e w5 ⟨rfl,hb⟩;have HB5:=Aside0.mk (below_step HB4.out hb);clear hb)
  | (go_at_call 20;(with_reducible refine (law_begun.calls _).mono ?_);rintro e w6 ⟨rfl,hb⟩;have HB6:=Aside0.mk (below_step HB5.out hb);clear hb)
  | (go_at_call 26; (with_reducible refine (table_Len_nil.calls _).mono ?_); rintro e w7 ⟨rfl, rfl⟩)
  | (go_at_call 27; (with_reducible refine (table_Blocks_nil.calls _).mono ?_); rintro e w8 ⟨rfl, rfl⟩))
 go_ret
 exact ⟨rfl, HB6.out⟩
end Go.Proofs.Ytenmljkddhonmaa.MTbl

namespace Go.Proofs.Ytenmljkddhonmaa.MTbl
open Go.RowKit Go.Proofs.Ytenmljkddhonmaa.QTbl Go.Proofs.YtenmljkddhonmaaW.PrintWords Go.Proofs.YtenmljkddhonmaaW.PrintLast Go.Proofs.YtenmljkddhonmaaW.PrintMore
set_option linter.unusedVariables false
set_option linter.unusedSimpArgs false
/-! PURE: how long a table is -/
def wgh : List S28 → Nat
 | [] => 0
 | x :: t => (x.f0.size + x.f3.size + x.f4.size) + wgh t
theorem wgh_append : ∀ a b, wgh (a ++ b) = wgh a + wgh b
 | [], b => by simp [wgh]
 | x :: t, b => by rw [List.cons_append, wgh, wgh, wgh_append t b]; omega
theorem okE_okB {x : S28} (h : okE x) : okB x ∧ okM x = true := by
 obtain ⟨h1, h2, h3, h4, h5, h6⟩ := h
 refine ⟨⟨⟨h1, h2, h3⟩, by omega, by omega⟩, ?_⟩
 unfold okM
 rw [decide_eq_true h1.1, decide_eq_true h1.2]
 rcases h2 with h | h
 ·have e4 : x.f4.toList = [] := by rw [h6 h, Lib.toList_data]
  rw [e4]; simp [h]
 ·simp [h]
theorem weigh_l0 (l : List S28) (hb : ∀ x ∈ l,okE x) (hl : l.length ≤ 1000) (d : Nat) : ∀ (i acc : Nat),l.length - i = d → i ≤ l.length → acc ≤ 200 * i → Ev (fun k=>incipitlaw17_weigh.l0 k l (acc : Int) (i : Int)) ((acc + wgh (l.drop i) : Nat) : Int):=by
 induction d with
 | zero =>
  intro i acc hd hi ha
  refine Ev.succ ?_
  simp only [incipitlaw17_weigh.l0]
  refine Ev.ite_neg (by omega) ?_
  rw [List.drop_eq_nil_of_le (by omega)]
  exact Ev.now _
 | succ d ih =>
  intro i acc hd hi ha
  have hlt : i < l.length := by omega
  refine Ev.succ ?_
  simp only [incipitlaw17_weigh.l0, rd_T28_nat l i hlt]
  refine Ev.ite_pos (by omega) (Ev.ite_pos (by omega) ?_)
  obtain ⟨_, _, h3, h4, h5, _⟩ := hb l[i] (List.getElem_mem hlt)
  have := ih (i + 1) (acc + ((l[i]).f0.size + (l[i]).f3.size + (l[i]).f4.size)) (by omega) (by omega) (by omega)
  rw [wrap64_id (n:=((l[i]).f0.size : Int) + ((l[i]).f3.size : Int)) (by omega) (by omega),wrap64_id (n:=((l[i]).f0.size : Int) + ((l[i]).f3.size : Int) + ((l[i]).f4.size : Int)) (by omega) (by omega),wrap64_id (n:=(acc : Int) + _) (by omega) (by omega),wrap64_id (n:=(i : Int) + 1) (by omega) (by omega)]
  rw [List.drop_eq_getElem_cons hlt, wgh, ← Nat.add_assoc]
  exact this
theorem weigh_ev (l : List S28) (hb : ∀ x ∈ l,okE x) (hl : l.length ≤ 1000) : Ev (fun k=>incipitlaw17_weigh.f k l) (wgh l : Int):=by
 have := weigh_l0 l hb hl l.length 0 0 rfl (Nat.zero_le _) (Nat.zero_le _)
 rw [List.drop_zero, Nat.zero_add] at this
 exact this
theorem addT_len (s : St) (k v : ByteArray) (hk : k.size < 128) (hv : v.size < 128) : (addT s k v).b.length + (addT s k v).p.length ≤ s.b.length + s.p.length + 7 + k.size + v.size:=by
 have hsh : s.sh k ≤ k.size := by
  unfold St.sh
  split
  ·omega
  ·have := (cpl_le (bytesOf s.last) (bytesOf k)).2
   rw [bytesOf_length] at this; exact this
 have hp : (addT s k v).p.length ≤ s.p.length + 4 := by
  unfold addT
  simp only
  split
  ·rw [List.length_append, fix_length]; omega
  ·omega
 have hb : (addT s k v).b.length ≤ s.b.length + 3 + k.size + v.size := by
  unfold addT
  simp only [List.length_append,put_small (show s.sh k < 128 by omega),put_small (show k.size - s.sh k < 128 by omega),put_small hv,List.length_singleton,List.length_drop,bytesOf_length]
  omega
 omega
theorem addTs_len : ∀ (c : List S28) (s : St),(∀ x ∈ c,okE x) → (addTs s (c.map rowOf)).b.length + (addTs s (c.map rowOf)).p.length ≤ s.b.length + s.p.length + 2 * wgh c + 19 * c.length
 | [], s, _ => by simp [addTs, wgh]
 | x :: t, s, h => by
  have hx := h x (List.mem_cons_self ..)
  obtain ⟨_, _, h3, h4, h5, _⟩ := id hx
  have hk : (keyS x).size ≤ 2 * x.f0.size + 11 := by rw [keyS_size]; exact keyL_length
  have hv : (valS x).size = 1 + x.f3.size + x.f4.size := by rw [valS_size (by omega), put_small (by omega)]; rfl
  have ih := addTs_len t (addT s (rowOf x).f0 (rowOf x).f1) (fun y hy => h y (List.mem_cons_of_mem _ hy))
  have ha := addT_len s (keyS x) (valS x) (by omega) (by omega)
  have e0 : (rowOf x).f0 = keyS x := rfl
  have e1 : (rowOf x).f1 = valS x := rfl
  rw [e0, e1] at ih
  rw [List.map_cons]
  simp only [addTs, wgh, List.length_cons, e0, e1]
  omega
theorem blk_len {c : List S28} (h : ∀ x ∈ c, okE x) : (blk c).length ≤ 2 * wgh c + 19 * c.length + 4 := by
 have := addTs_len c St0 h
 have e1 : St0.b.length = 0 := rfl
 have e2 : St0.p.length = 0 := rfl
 unfold blk
 rw [out_length]
 unfold szB stOf
 omega
theorem blks_len : ∀ (cs : List (List S28)),(∀ c ∈ cs,∀ x ∈ c,okE x) → (cs.flatMap blk).length ≤ 2 * wgh cs.flatten + 19 * cs.flatten.length + 4 * cs.length
 | [], _ => by simp
 | c :: t, h => by
  have ih := blks_len t (fun d hd => h d (List.mem_cons_of_mem _ hd))
  have hc := blk_len (h c (List.mem_cons_self ..))
  rw [List.flatMap_cons, List.flatten_cons, wgh_append]
  simp only [List.length_append, List.length_cons]
  omega
theorem tblB_len {l : List S28} {flt : List Int} (hne : l ≠ []) (hl : l.length ≤ 1000) (h : ∀ x ∈ l,okE x) (hf : flt.length ≤ 2 * l.length + 20) : (tblB l flt).length ≤ 2 * wgh l + 60 * l.length + 100:=by
 have hfl := cutB_flat l [] hne
 rw [List.nil_append] at hfl
 have h1 := blks_len (cutB [] l) (fun c hc x hx => h x (cutB_mem hne hc hx))
 rw [hfl] at h1
 have hcn := cutB_length_le l []
 have ho : ∀ x ∈ l, okB x := fun x hx => (okE_okB (h x hx)).1
 have hsz : (sizesB l).length ≤ 10 * (cutB [] l).length := by
  have:=flatMap_length_le (fun c=>put (blk c).length) 10 (cutB [] l) (fun c hc=>by have:=blk_length ho hc;exact put_length10 (by omega))
  unfold sizesB; omega
 have hpl := put_length10 (n := (cutB [] l).length) (by omega)
 have htl : (tailB l flt).length = (put (cutB [] l).length).length + (sizesB l).length + flt.length:=by unfold tailB;simp only [List.length_append]
 have hlen := tblB_length l flt
 have hr : (rowsB l).length = ((cutB [] l).flatMap blk).length := rfl
 omega
end Go.Proofs.Ytenmljkddhonmaa.MTbl

namespace Go.Proofs.Ytenmljkddhonmaa.MTbl
open Go.RowKit Go.BigFrame Go.Proofs.Ytenmljkddhonmaa.QTbl Go.Proofs.YtenmljkddhonmaaW.PrintWords Go.Proofs.YtenmljkddhonmaaW.PrintLast Go.Proofs.YtenmljkddhonmaaW.PrintMore
set_option linter.unusedVariables false
set_option linter.unusedSimpArgs false
theorem quiet_lit {P : Program} {C : World → Prop} {id : Nat} {Q : Exit → Act → World → Prop} {a : Act} {w : World} {l : List Oper} (hm : P.follows .mixedOrders = true) (hB : Region.lexB .any l.toArray = true) (hC : C w.drew)
  (h : wpQuiet P l.toArray C (fun a'=>∀ w',C w' → Q .normal a' w') l a) : (Code.region id l.toArray true).wp P Q a w :=
 wp_region_quiet (C := C) hm hB hC (by simpa using h)
theorem wgh_le : ∀ {t : List S28}, (∀ x ∈ t, okE x) → wgh t ≤ 120 * t.length
 | [], _ => by simp [wgh]
 | x :: t, h => by
  obtain ⟨_, _, h3, h4, h5, _⟩ := h x (List.mem_cons_self ..)
  have := wgh_le (t := t) (fun y hy => h y (List.mem_cons_of_mem _ hy))
  rw [wgh, List.length_cons]; omega
theorem okE_tab {t : List S28} (hne : t ≠ []) (hl : t.length ≤ 1000) (hs : t.Pairwise srtR) (ho : ∀ x ∈ t,okE x) : ∃ flt,Tab t flt :=
 Tab.of hne hl hs (fun x hx=>(okE_okB (ho x hx)).1) (mayL_of _ _ hs (fun x hx=>(okE_okB (ho x hx)).2) (fun q hq=>by cases hq))
set_option maxHeartbeats 2000000 in
set_option maxRecDepth 1000000 in
theorem incipitlaw17_TableAll.calls (A0 : Option Addr) (c0 : Nat) (l0 : List S28) (a1 : ByteArray) (a2 : Int) (w : World) (hr0 : Kd.C k28 w A0 l0.length l0) (hc0 : l0.length ≤ c0) (hm1 : a1.size ≤ maxLen) :
  Calls Try.prog 9 #[.slice A0 l0.length c0,.string a1,.int .i64 a2] w fun e w'=>e = .returned (.bool true)∧Below w.heap.size w w':=by
 have hu28 := Try.underlying28
 have HBEG := Aside0.mk (law_begun.calls w)
 obtain ⟨t, ⟨K, hK⟩, htl, hts, hto⟩ := Sort_ev l0 60 (by omega)
 have HK := Aside0.mk (hK K (Nat.le_refl _))
 have HR0 := Aside0.mk (And.intro hr0 hc0)
 have HS := Aside0.mk hts
 have HO := Aside0.mk hto
 have HM1 := Aside0.mk hm1
 clear hK hr0 hc0 hts hto hm1
 by_cases hne : t = []
 ·subst hne
  obtain ⟨k, hk⟩ := may_nil
  have HKN := Aside0.mk hk
  clear hk
  go_enter Try.func9, Try.ntmps9
  go_wp2_with (first
   | (go_at_call 20; refine HBEG.out.mono ?_; rintro e w2 ⟨rfl, hb⟩; have HB := Aside0.mk hb; clear hb)
   | (go_at_call 29;refine (incipitlaw7_Sort.calls K A0 c0 l0 60 [] w2 (Kd.C_below HR0.out.1 HB.out) HR0.out.2 HK.out).mono ?_;rintro e w3 ⟨v,rfl,hR,hb⟩;obtain ⟨A1,c1,e1⟩:=Kd.R_slice hR;subst e1;have hX:=Kd.R_reads' hR;have HX:=Aside0.mk (table_Build_no.calls k A1 c1 [] w3 hX.2.2 hX.2.1 HKN.out);rw [List.length_nil] at HX;have HB3:=Aside0.mk (below_step HB.out hb);rw [List.length_nil];clear hR hb hX)
   | (go_at_call 22;refine HX.out.mono ?_;rintro e w4 ⟨rfl,hb⟩;have HB4:=Aside0.mk (below_step HB3.out hb);clear hb))
  go_ret
  exact ⟨rfl, HB4.out⟩
 ·obtain ⟨flt, hT⟩ := okE_tab hne (by omega) HS.out HO.out
  have HT := Aside0.mk hT
  obtain ⟨KW, hKW⟩ := weigh_ev t HO.out (by omega)
  have HKW := Aside0.mk (hKW KW (Nat.le_refl _))
  obtain ⟨KE, hKE⟩ := EqAll_self t (by omega)
  have HKE := Aside0.mk (hKE KE (Nat.le_refl _))
  have HLEN := Aside0.mk (tblB_len hne (by omega) HO.out hT.fl)
  have hbl := cutB_pos t hne
  have HBL := Aside0.mk (And.intro hbl (cutB_length_le t []))
  obtain ⟨bl, hbl_⟩ : ∃ bl, bl = (cutB [] t).length := ⟨_, rfl⟩
  rw [← hbl_] at HBL
  have HBE := Aside0.mk hbl_
  have hn1 : 0 < t.length := List.length_pos_iff.2 hne
  have HN1 := Aside0.mk (And.intro hn1 htl)
  clear hT hKW hKE hbl hbl_ hn1 hne htl
  go_enter Try.func9, Try.ntmps9
  go_wp2_with (first
   | (go_at_call 20; refine HBEG.out.mono ?_; rintro e w2 ⟨rfl, hb⟩; have HB := Aside0.mk hb; clear hb)
   | (go_at_call 29;refine (incipitlaw7_Sort.calls K A0 c0 l0 60 t w2 (Kd.C_below HR0.out.1 HB.out) HR0.out.2 HK.out).mono ?_;rintro e w3 ⟨v,rfl,hR,hb⟩;obtain ⟨A1,c1,e1⟩:=Kd.R_slice hR;subst e1;have hX:=Kd.R_reads' hR;have HX:=Aside0.mk hX.2;obtain ⟨n1,hn1⟩ : ∃ n1,Aside0 (n1 = t.length):=⟨_,⟨rfl⟩⟩;rw [← hn1.out];have HB3:=Aside0.mk (below_step HB.out hb);clear hR hb hX))
  have HBU := Aside0.mk (HT.out.build A1 c1 w3 HX.out.2 HX.out.1)
  have HCT : Aside0 (∀ w',Below w3.heap.size w3 w' → Kd.C k28 w' A1 t.length t):=⟨fun w' h=>Kd.C_below HX.out.2 h⟩
  have HWE : Aside0 (∀ w',Below w3.heap.size w3 w' → Calls Try.prog 30 #[.slice A1 n1 c1] w' fun e w''=>e = .returned (.int .i64 (wgh t : Int))∧Drawn0 w' w''):=⟨fun w' h=>by rw [hn1.out];exact incipitlaw17_weigh.calls KW A1 c1 t (wgh t : Int) w' (HCT.out w' h) HX.out.1 HKW.out⟩
  have HEQ : Aside0 (∀ w' A3 c3,Below w3.heap.size w3 w' → Kd.C k28 w' A3 t.length t → t.length ≤ c3 → Calls Try.prog 15 #[.slice A3 n1 c3,.slice A1 n1 c1] w' fun e w''=>e = .returned (.bool true)∧Below w'.heap.size w' w''):=⟨fun w' A3 c3 h h1 h2=>by rw [hn1.out];exact incipitref12_EqAll.calls KE A3 c3 t A1 c1 t true w' h1 h2 (HCT.out w' h) HX.out.1 HKE.out⟩
  have HGE : Aside0 (∀ w' g s q,Below w3.heap.size w3 w' → TabI w' g t flt bl → s.size ≤ maxLen → Calls Try.prog 32 #[.pointer (some ⟨g,0,none⟩),.slice A1 n1 c1,.string s,.int .i64 q] w' fun e w''=>e = .returned (.bool true)∧Below w'.heap.size w' w''):=⟨fun w' g s q h hI hs=>by rw [hn1.out];exact law_gets.calls w' g t flt bl s q A1 c1 hI (by have:=HN1.out;omega) HS.out HT.out.ok hs (HCT.out w' h) HX.out.1⟩
  have HFR : Aside0 (∀ w' g s,Below w3.heap.size w3 w' → TabI w' g t flt bl → Calls Try.prog 33 #[.pointer (some ⟨g,0,none⟩),.slice A1 n1 c1,.string s] w' fun e w''=>e = .returned (.bool true)∧Below w'.heap.size w' w''):=⟨fun w' g s h hI=>by rw [hn1.out];exact law_from.calls w' g t flt bl s A1 c1 hI (by have:=HN1.out;omega) HS.out (HCT.out w' h) HX.out.1⟩
  have HALL : Aside0 (∀ w' g,TabI w' g t flt bl → Calls Try.prog 31 #[.pointer (some ⟨g,0,none⟩)] w' fun e w''=>∃ A3 c3,e = .returned (.tuple #[.slice A3 n1 c3,.int .i64 0])∧Kd.C k28 w'' A3 t.length t∧t.length ≤ c3∧Below w'.heap.size w' w''):=⟨fun w' g hI=>(table_All.calls w' g t flt bl hI (by have:=HN1.out;omega)).mono (by
   rintro e w'' ⟨v, rfl, hR, hb⟩
   obtain ⟨A3, c3, e3⟩ := Kd.R_slice hR
   subst e3
   have hX := Kd.R_reads' hR
   exact ⟨A3, c3, by rw [hn1.out], hX.2.2, hX.2.1, hb⟩)⟩
  have HLE : Aside0 (∀ w' g,TabI w' g t flt bl → Calls Try.prog 26 #[.pointer (some ⟨g,0,none⟩)] w' fun e w''=>e = .returned (.int .i64 n1)∧w'' = w'):=⟨fun w' g hI=>by rw [hn1.out];exact table_Len.calls w' g t flt bl hI⟩
  rw [← hn1.out] at HBU
  have hnn : 0 < n1 ∧ n1 ≤ 60 := by have := HN1.out; have := hn1.out; omega
  have hnn1 := hnn.1
  have hnn2 := hnn.2
  have hn0 : ((n1 : Int) == 0) = false := beq_eq_false_iff_ne.2 (by omega)
  have hself : ((n1 : Int) != (n1 : Int)) = false := by simp
  obtain ⟨nb, hnb⟩ : ∃ nb, Aside0 (nb = (tblB t flt).length) := ⟨_, ⟨rfl⟩⟩
  have HOPN : Aside0 (∀ A c w',Kd.C (Kd.int .u8) w' A (tblB t flt).length (tblB t flt) → (tblB t flt).length ≤ c → Calls Try.prog 23 #[.slice A nb c] w' fun e w''=>∃ g,e = .returned (.tuple #[.pointer (some ⟨g,0,none⟩),.int .i64 0])∧TabI w'' g t flt bl∧Below w'.heap.size w' w''):=⟨fun A c w' h1 h2=>by rw [hnb.out,HBE.out];exact HT.out.opn A c w' h1 h2⟩
  obtain ⟨wg, hwg⟩ : ∃ wg, Aside0 (wg = wgh t) := ⟨_, ⟨rfl⟩⟩
  rw [← hwg.out] at HWE
  have hsz : nb ≤ 2 * wg + 60 * n1 + 100:=by have:=HLEN.out;have:=hnb.out;have:=hwg.out;have:=hn1.out;omega
  have hwgb : wg ≤ 1000000 := by have := wgh_le HO.out; have := hwg.out; have := HN1.out; omega
  have p7 : ((2 * (wg : Int) + 60 * (n1 : Int) + 100 < (nb : Int))) = False := eq_false (by omega)
  have p8 : ((bl : Int) < 1) = False := eq_false (by have := HBL.out; omega)
  go_wp2_with (first
   | (go_at_call 22;refine HBU.out.mono ?_;rintro e w4 ⟨v,rfl,hR,hb⟩;obtain ⟨A2,c2,e2⟩:=Kd.R_slice hR;subst e2;rw [← hnb.out];have hX:=Kd.R_reads' hR;have HO4:=Aside0.mk (HOPN.out A2 c2 w4 hX.2.2 hX.2.1);have HB4:=Aside0.mk hb;clear hR hb hX)
   | (go_at_call 23;refine HO4.out.mono ?_;rintro e w5 ⟨g,rfl,hI,hb⟩;have HI5:=Aside0.mk hI;have HB5:=Aside0.mk (below_step HB4.out hb);clear hI hb)
   | (go_at_call 30;refine (HWE.out _ HB5.out).mono ?_;rintro e w6 ⟨rfl,hd⟩;obtain ⟨m6,hm6⟩:=hd.out;have hb6 : Below w5.heap.size w5 w6:=(by rw [hm6];exact pw_below_drewN (Below.refl _ _) m6);have HI6:=Aside0.mk (HI5.out.below hb6);have HB6:=Aside0.mk (below_step HB5.out hb6);clear hd hm6 hb6)
   | (go_at_call 26; refine (HLE.out _ g HI6.out).mono ?_; rintro e w7 ⟨rfl, rfl⟩)
   | (go_at_call 27; refine (table_Blocks.calls _ g t flt bl HI6.out).mono ?_; rintro e w8 ⟨rfl, rfl⟩)
   | (go_at_call 31;refine (HALL.out _ g HI6.out).mono ?_;rintro e w9 ⟨A3,c3,rfl,hC,hc,hb⟩;have HI9:=Aside0.mk (HI6.out.below hb);have HB9:=Aside0.mk (below_step HB6.out hb);have HC9:=Aside0.mk (And.intro hC hc);clear hC hc hb)
   | (go_at_call 15;refine (HEQ.out _ A3 c3 HB9.out HC9.out.1 HC9.out.2).mono ?_;rintro e w10 ⟨rfl,hb⟩;have HI10:=Aside0.mk (HI9.out.below hb);have HB10:=Aside0.mk (below_step HB9.out hb);clear hb))
  go_loopg [14] n1 (fun kx s14 wr=>∃ i : Nat,s14 = .int .i64 i∧i ≤ n1∧n1 - i ≤ kx∧Aside0 (Below w10.heap.size w10 wr))
  case atStart => exact ⟨0, rfl, Nat.zero_le _, by omega, ⟨Below.refl _ _⟩⟩
  case round =>
   obtain ⟨i, rfl, hie, hik, HL⟩ := hrel
   have HBW := Aside0.mk (below_step HB10.out HL.out)
   have HIW := Aside0.mk (HI10.out.below HL.out)
   by_cases hi : i < n1
   ·cases gk with
    | zero => omega
    | succ k1 =>
    have hit : i < t.length := by have := hn1.out; omega
    have hxm : t[i] ∈ t := List.getElem_mem hit
    have hx : rd_T28 t (i : Int) = t[i] := rd_T28_nat t i hit
    obtain ⟨ad, rfl, g0, g1, _, _, _⟩ := at_T28 (HCT.out wr HBW.out) (i : Int) (by omega) (by omega)
    have GA : Aside0 (∀ w',Below wr.heap.size wr w' → w'.cell? (ad.add (i * 5)) = some (.string (t[i]).f0)∧w'.cell? ⟨(ad.add (i * 5)).block,(ad.add (i * 5)).off + 1,none⟩ = some (.int .i64 (t[i]).f1)):=⟨fun w' h=>by
     obtain ⟨ad2,e2,h0,h1,_,_,_⟩:=at_T28 (HCT.out w' (below_step HBW.out h)) (i : Int) (by omega) (by omega)
     injection e2 with e2
     subst e2
     rw [hx] at h0 h1
     rw [Int.toNat_natCast] at h0
     simp only [Int.toNat_natCast] at h1
     exact ⟨h0, h1⟩⟩
    have hxo := HO.out _ hxm
    have hf0 : (t[i]).f0.size ≤ maxLen := by rw [maxLen_eq]; have := hxo.2.2.1; omega
    have hf1 : 1 ≤ (t[i]).f1 ∧ (t[i]).f1 ≤ 1125899906842624 := hxo.1
    clear g0 g1 hx hxm hxo
    generalize t[i] = x at *
    have hf11 := hf1.1
    have hf12 := hf1.2
    clear hf1
    have HF0 := Aside0.mk hf0
    clear hf0
    have p1 : ((i : Int) < (n1 : Int)) = True := eq_true (by omega)
    have p2 : ((0 : Int) ≤ (i : Int)) = True := eq_true (by omega)
    have p3 : (i < n1) = True := eq_true hi
    go_wp2_with (fail)
    go_cut [131] (fun s131 wd => s131 = .bool false ∧ Aside0 (Below wr.heap.size wr wd))
    case first =>
     refine quiet_lit (C:=fun w'=>Below wr.heap.size wr w') (by kernel_rfl) (by kernel_rfl) (below_drew1 (Below.refl _ _)) ?_
     repeat (first | go_big_quiet_skip | (go_big_quiet_want;go_big_quiet_op;go_big_quiet_on) | (refine wpQuiet_step (fun K hK=>?_);go_simp;refine ⟨_,fun w' hw'=>rfl,hK _ ?_⟩;clear hK K))
     refine wpQuiet_step (fun K hK => ?_)
     go_simp
     refine ⟨.string x.f0, fun w' hw' => ?_, hK _ ?_⟩
     ·have h0 := (GA.out w' hw').1
      go_simp
     clear hK K
     repeat (first | go_big_quiet_skip | (go_big_quiet_want;go_big_quiet_op;go_big_quiet_on) | (refine wpQuiet_step (fun K hK=>?_);go_simp;refine ⟨_,fun w' hw'=>rfl,hK _ ?_⟩;clear hK K))
     refine wpQuiet_step (fun K hK => ?_)
     go_simp
     refine ⟨.int .i64 x.f1, fun w' hw' => ?_, hK _ ?_⟩
     ·have h0 := (GA.out w' hw').2
      go_simp
     clear hK K
     repeat (first | go_big_quiet_skip | (go_big_quiet_want;go_big_quiet_op;go_big_quiet_on) | (refine wpQuiet_step (fun K hK=>?_);go_simp;refine ⟨_,fun w' hw'=>rfl,hK _ ?_⟩;clear hK K))
     refine wpQuiet_step (fun K hK => ?_)
     go_simp
     refine ⟨.bool true, fun w' hw' => ?_, hK _ ?_⟩
     ·exact (HGE.out w' g x.f0 x.f1 (below_step HBW.out hw') (HIW.out.below hw') HF0.out).mono (fun e w'' hh=>⟨hh.1,below_step hw' hh.2⟩)
     clear hK K
     repeat (first | go_big_quiet_skip | (go_big_quiet_want;go_big_quiet_op;go_big_quiet_on) | (refine wpQuiet_step (fun K hK=>?_);go_simp;refine ⟨_,fun w' hw'=>rfl,hK _ ?_⟩;clear hK K))
     refine wpQuiet_step (fun K hK => ?_)
     go_simp
     refine ⟨.string x.f0, fun w' hw' => ?_, hK _ ?_⟩
     ·have h0 := (GA.out w' hw').1
      go_simp
     clear hK K
     repeat (first | go_big_quiet_skip | (go_big_quiet_want;go_big_quiet_op;go_big_quiet_on) | (refine wpQuiet_step (fun K hK=>?_);go_simp;refine ⟨_,fun w' hw'=>rfl,hK _ ?_⟩;clear hK K))
     refine wpQuiet_step (fun K hK => ?_)
     go_simp
     refine ⟨.int .i64 x.f1, fun w' hw' => ?_, hK _ ?_⟩
     ·have h0 := (GA.out w' hw').2
      go_simp
     clear hK K
     repeat (first | go_big_quiet_skip | (go_big_quiet_want;go_big_quiet_op;go_big_quiet_on) | (refine wpQuiet_step (fun K hK=>?_);go_simp;refine ⟨_,fun w' hw'=>rfl,hK _ ?_⟩;clear hK K))
     refine wpQuiet_step (fun K hK => ?_)
     go_simp
     refine ⟨.bool true, fun w' hw' => ?_, hK _ ?_⟩
     ·exact (HGE.out w' g x.f0 (IntKind.i64.wrap (x.f1 - 1)) (below_step HBW.out hw') (HIW.out.below hw') HF0.out).mono (fun e w'' hh=>⟨hh.1,below_step hw' hh.2⟩)
     clear hK K
     repeat (first | go_big_quiet_skip | (go_big_quiet_want;go_big_quiet_op;go_big_quiet_on) | (refine wpQuiet_step (fun K hK=>?_);go_simp;refine ⟨_,fun w' hw'=>rfl,hK _ ?_⟩;clear hK K))
     refine wpQuiet_step (fun K hK => ?_)
     go_simp
     refine ⟨.string x.f0, fun w' hw' => ?_, hK _ ?_⟩
     ·have h0 := (GA.out w' hw').1
      go_simp
     clear hK K
     repeat (first | go_big_quiet_skip | (go_big_quiet_want;go_big_quiet_op;go_big_quiet_on) | (refine wpQuiet_step (fun K hK=>?_);go_simp;refine ⟨_,fun w' hw'=>rfl,hK _ ?_⟩;clear hK K))
     refine wpQuiet_step (fun K hK => ?_)
     go_simp
     refine ⟨.bool true, fun w' hw' => ?_, hK _ ?_⟩
     ·exact (HFR.out w' g x.f0 (below_step HBW.out hw') (HIW.out.below hw')).mono (fun e w'' hh=>⟨hh.1,below_step hw' hh.2⟩)
     clear hK K
     repeat (first | go_big_quiet_skip | (go_big_quiet_want;go_big_quiet_op;go_big_quiet_on) | (refine wpQuiet_step (fun K hK=>?_);go_simp;refine ⟨_,fun w' hw'=>rfl,hK _ ?_⟩;clear hK K))
     refine wpQuiet_nil ?_
     intro wz hwz
     go_wp2_with (fail)
     go_meet
     case rel => exact ⟨rfl, ⟨hwz⟩⟩
    case rest =>
     obtain ⟨rfl, HBd⟩ := hcut
     go_wp2_with (fail)
     go_roundg k1
     case measure => omega
     case rel => exact ⟨i + 1, by go_num, by omega, by omega, ⟨below_step HL.out HBd.out⟩⟩
   ·have hie2 : i = n1 := by omega
    subst hie2
    have HGL := Aside0.mk (HGE.out wr g a1 a2 HBW.out HIW.out HM1.out)
    go_wp2_with (first
     | (go_at_call 32;refine HGL.out.mono ?_;rintro e w11 ⟨rfl,hb⟩;have HF11:=Aside0.mk (HFR.out w11 g a1 (below_step HBW.out hb) (HIW.out.below hb));have HB11:=Aside0.mk (below_step HBW.out hb);clear hb)
     | (go_at_call 33;refine HF11.out.mono ?_;rintro e w12 ⟨rfl,hb⟩;have HB12:=Aside0.mk (below_step HB11.out hb);clear hb))
    go_ret
    exact ⟨rfl, below_step HB3.out HB12.out⟩
end Go.Proofs.Ytenmljkddhonmaa.MTbl
