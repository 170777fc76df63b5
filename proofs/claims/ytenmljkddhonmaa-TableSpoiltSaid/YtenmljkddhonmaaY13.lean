import Derived.Test.YtenmljkddhonmaaY12
import Derived.Deep.Slices
import Derived.Deep.Fields
import Derived.ChangeArms
import Derived.ChangeSame
import Derived.WalkKit
import Derived.ProofKit
import Derived.OpenShut
import Derived.Test.YtenmljkddhonmaaY1
namespace Go.Proofs.Ytenmljkddhonmaa.MTbl
open Go.RowKit Go.BigFrame Go.Proofs.Ytenmljkddhonmaa.QTbl Go.Proofs.YtenmljkddhonmaaW.PrintWords Go.Proofs.YtenmljkddhonmaaW.PrintLast Go.Proofs.YtenmljkddhonmaaW.PrintMore
set_option linter.unusedVariables false
set_option linter.unusedSimpArgs false
theorem rfind_self : ∀ {l : List S28} {x : S28}, l.Pairwise srtR → x ∈ l → rfind x.f0 x.f1 l = some x
 | [], x, _, h => by cases h
 | a :: l, x, hs, h => by
  obtain ⟨h1, h2⟩ := List.pairwise_cons.1 hs
  rw [rfind]
  rcases List.mem_cons.1 h with rfl | h
  ·rw [if_pos]
   unfold hitB
   rw [beq_self_eq_true, Bool.true_and]
   exact decide_eq_true (Int.le_refl _)
  ·obtain ⟨hl, hn⟩ := h1 x h
   rw [if_neg, rfind_self h2 h]
   unfold hitB
   intro hc
   rw [Bool.and_eq_true] at hc
   have e0 : a.f0.toList = x.f0.toList := beq_iff_eq.1 hc.1
   have e1 : a.f1 ≤ x.f1 := of_decide_eq_true hc.2
   unfold ltS lt3 at hl
   rw [if_pos e0] at hl
   split at hl
   ·next e2 => exact hn ⟨e0, e2⟩
   ·have := of_decide_eq_true hl; omega
/-- The table's own bytes, or bytes that fail the first check. -/
def Spo (t : List S28) (flt b' : List Int) : Prop := b' = tblB t flt ∨ ¬ firstOK b'
set_option maxHeartbeats 2000000 in
set_option maxRecDepth 1000000 in
theorem incipitlaw17_TableSpoilt.calls (A0 : Option Addr) (c0 : Nat) (l0 : List S28) (a1 a2 a3 : Int) (a4 : ByteArray) (w : World) (hr0 : Kd.C k28 w A0 l0.length l0) (hc0 : l0.length ≤ c0) (hw1 : (Lit.int .i64 a1).wf = true) (hw2 : (Lit.int .u8 a2).wf = true) (hw3 : (Lit.int .i64 a3).wf = true) (hm4 : a4.size ≤ maxLen) :
  Calls Try.prog 10 #[.slice A0 l0.length c0,.int .i64 a1,.int .u8 a2,.int .i64 a3,.string a4] w fun e w'=>e = .returned (.bool true)∧Below w.heap.size w w':=by
 have hu28 := Try.underlying28
 have hu43 := Try.underlying43
 have HBEG := Aside0.mk (law_begun.calls w)
 obtain ⟨t, ⟨K, hK⟩, htl, hts, hto⟩ := Sort_ev l0 30 (by omega)
 have HK := Aside0.mk (hK K (Nat.le_refl _))
 have HR0 := Aside0.mk (And.intro hr0 hc0)
 have HS := Aside0.mk hts
 have HO := Aside0.mk hto
 have HM4 := Aside0.mk hm4
 have HW1 : Aside0 (-9223372036854775808 ≤ a1∧a1 ≤ 9223372036854775807):=⟨by simpa [Lit.wf,IntKind.min,IntKind.max,IntKind.signed,IntKind.bits] using hw1⟩
 have HW2 : Aside0 (0 ≤ a2∧a2 ≤ 255):=⟨by simpa [Lit.wf,IntKind.min,IntKind.max,IntKind.signed,IntKind.bits] using hw2⟩
 have HW3 : Aside0 (-9223372036854775808 ≤ a3∧a3 ≤ 9223372036854775807):=⟨by simpa [Lit.wf,IntKind.min,IntKind.max,IntKind.signed,IntKind.bits] using hw3⟩
 clear hK hr0 hc0 hts hto hm4 hw1 hw2 hw3
 by_cases hne : t = []
 ·subst hne
  obtain ⟨k, hk⟩ := may_nil
  have HKN := Aside0.mk hk
  clear hk
  go_enter Try.func10, Try.ntmps10
  go_wp2_with (first
   | (go_at_call 20; refine HBEG.out.mono ?_; rintro e w2 ⟨rfl, hb⟩; have HB := Aside0.mk hb; clear hb)
   | (go_at_call 29;refine (incipitlaw7_Sort.calls K A0 c0 l0 30 [] w2 (Kd.C_below HR0.out.1 HB.out) HR0.out.2 HK.out).mono ?_;rintro e w3 ⟨v,rfl,hR,hb⟩;obtain ⟨A1,c1,e1⟩:=Kd.R_slice hR;subst e1;have hX:=Kd.R_reads' hR;have HX:=Aside0.mk (table_Build_no.calls k A1 c1 [] w3 hX.2.2 hX.2.1 HKN.out);rw [List.length_nil] at HX;have HB3:=Aside0.mk (below_step HB.out hb);rw [List.length_nil];clear hR hb hX)
   | (go_at_call 22;refine HX.out.mono ?_;rintro e w4 ⟨rfl,hb⟩;have HB4:=Aside0.mk (below_step HB3.out hb);clear hb))
  go_ret
  exact ⟨rfl, HB4.out⟩
 ·obtain ⟨flt, hT⟩ := okE_tab hne (by omega) HS.out HO.out
  have HT := Aside0.mk hT
  obtain ⟨KE, hKE⟩ := EqAll_self t (by omega)
  have HKE := Aside0.mk (hKE KE (Nat.le_refl _))
  have hn1 : 0 < t.length := List.length_pos_iff.2 hne
  have HN1 := Aside0.mk (And.intro hn1 htl)
  clear hT hKE hn1 hne htl
  go_enter Try.func10, Try.ntmps10
  go_upto_region 8 with (first
   | (go_at_call 20; refine HBEG.out.mono ?_; rintro e w2 ⟨rfl, hb⟩; have HB := Aside0.mk hb; clear hb)
   | (go_at_call 29;refine (incipitlaw7_Sort.calls K A0 c0 l0 30 t w2 (Kd.C_below HR0.out.1 HB.out) HR0.out.2 HK.out).mono ?_;rintro e w3 ⟨v,rfl,hR,hb⟩;obtain ⟨A1,c1,e1⟩:=Kd.R_slice hR;subst e1;have hX:=Kd.R_reads' hR;have HX:=Aside0.mk hX.2;have HBU:=Aside0.mk (HT.out.build A1 c1 w3 hX.2.2 hX.2.1);obtain ⟨n1,hn1⟩ : ∃ n1,Aside0 (n1 = t.length):=⟨_,⟨rfl⟩⟩;rw [← hn1.out] at HBU;rw [← hn1.out];have HB3:=Aside0.mk (below_step HB.out hb);clear hR hb hX)
   | (go_at_call 22;refine HBU.out.mono ?_;rintro e w4 ⟨v,rfl,hR,hb⟩;obtain ⟨g2,c2,e2,hg2,hg2l,hcl⟩:=Kd.R_form hR (by have:=HT.out.first.1;omega);subst e2;obtain ⟨nb,hnb⟩ : ∃ nb,Aside0 (nb = (tblB t flt).length):=⟨_,⟨rfl⟩⟩;rw [← hnb.out];have HR4:=Aside0.mk hR;have HB4:=Aside0.mk hb;have HG2:=Aside0.mk hg2;clear hR hb hg2 hg2l hcl))
  obtain ⟨bq, hbq⟩ : ∃ bq : Bool, bq = decide (0 < a3 ∧ a3 ≤ (nb : Int)) := ⟨_, rfl⟩
  have HBQ := Aside0.mk hbq
  clear hbq
  go_cut [44] (fun s44 wc => s44 = .bool bq ∧ Aside0 (w4 = wc))
  case first =>
   by_cases q1 : 0 < a3
   ·have p1 : (0 < a3) = True := eq_true q1
    by_cases q2 : a3 ≤ (nb : Int)
    ·have p2 : (a3 ≤ (nb : Int)) = True := eq_true q2
     have hb_ : bq = true := by rw [HBQ.out]; exact decide_eq_true ⟨q1, q2⟩
     subst hb_
     go_wp2_with (fail)
     go_meet
     case rel => exact ⟨rfl, ⟨rfl⟩⟩
    ·have p2 : (a3 ≤ (nb : Int)) = False := eq_false q2
     have hb_ : bq = false := by rw [HBQ.out]; exact decide_eq_false (fun h => q2 h.2)
     subst hb_
     go_wp2_with (fail)
     go_meet
     case rel => exact ⟨rfl, ⟨rfl⟩⟩
   ·have p1 : (0 < a3) = False := eq_false q1
    have hb_ : bq = false := by rw [HBQ.out]; exact decide_eq_false (fun h => q1 h.1)
    subst hb_
    go_wp2_with (fail)
    go_meet
    case rel => exact ⟨rfl, ⟨rfl⟩⟩
  case rest =>
   obtain ⟨rfl, hw1⟩ := hcut
   have hw1e := hw1.out
   subst hw1e
   clear hw1
   have HBY := Aside0.mk HT.out.bytes
   have HFI := Aside0.mk HT.out.first
   have HLE := Aside0.mk HT.out.len
   refine (by assumption : ∀ (a : Act) (w : World), Code.wp Try.prog (Code.cond _ _ _) _ a w → _) _ _ ?_
   go_cut [12] (fun s12 wd=>∃ (A : Option Addr) (n c : Nat) (b' : List Int),s12 = .slice A n c∧n = b'.length∧Aside0 (Kd.C (Kd.int .u8) wd A b'.length b'∧b'.length ≤ c∧Bytes b'∧b'.length < 4000000∧Spo t flt b')∧Aside0 (Below w3.heap.size w3 wd))
   case first =>
    cases bq with
    | true =>
     obtain ⟨q1, q2⟩ := of_decide_eq_true HBQ.out.symm
     obtain ⟨cu, rfl⟩ : ∃ cu : Nat, a3 = cu := ⟨a3.toNat, by omega⟩
     have hX := Kd.R_reads' HR4.out
     have hC := C_takeI hX.2.2 (c := c2) (m := nb - cu) (by rw [← hnb.out]; exact Nat.sub_le _ _) hX.2.1
     have HRES : Aside0 (Kd.C (Kd.int .u8) w4 (some ⟨g2,0,none⟩) ((tblB t flt).take (nb - cu)).length ((tblB t flt).take (nb - cu))∧((tblB t flt).take (nb - cu)).length ≤ c2∧Bytes ((tblB t flt).take (nb - cu))∧((tblB t flt).take (nb - cu)).length < 4000000∧Spo t flt ((tblB t flt).take (nb - cu))):=⟨by
      have hl : ((tblB t flt).take (nb - cu)).length = nb - cu := by rw [List.length_take, ← hnb.out]; omega
      refine ⟨by rw [hl];exact hC.2,by rw [hl];have:=hX.2.1;have:=hnb.out;omega,HBY.out.take _,by rw [hl];have:=HLE.out;have:=hnb.out;omega,.inr (first_cut HFI.out (by rw [← hnb.out];omega))⟩⟩
     have hcl : nb ≤ c2 := by have := hX.2.1; have := hnb.out; omega
     have hnbl : nb < 4000000 := by have := HLE.out; have := hnb.out; omega
     have hwn : wrap64 ((nb : Int) - (cu : Int)) = ((nb - cu : Nat) : Int):=by rw [wrap64_id (by omega) (by omega)];omega
     have hcut : ((nb - cu : Nat) : Int) ≤ (c2 : Int) := by omega
     clear hX hC
     go_wp2_with (fail)
     go_meet
     case rel =>
      refine ⟨_, _, _, _, rfl, ?_, HRES, HB4⟩
      rw [List.length_take, ← hnb.out]; omega
    | false =>
     have hno : ∀ q : Bool, True := fun _ => trivial
     have HSAME : Aside0 (Kd.C (Kd.int .u8) w4 (some ⟨g2,0,none⟩) (tblB t flt).length (tblB t flt)∧(tblB t flt).length ≤ c2∧Bytes (tblB t flt)∧(tblB t flt).length < 4000000∧Spo t flt (tblB t flt)):=⟨by
      have hX := Kd.R_reads' HR4.out
      exact ⟨hX.2.2, by have := hX.2.1; have := hnb.out; omega, HBY.out, HLE.out, .inl rfl⟩⟩
     by_cases q1 : 0 ≤ a1
     ·obtain ⟨m, rfl⟩ : ∃ m : Nat, a1 = m := ⟨a1.toNat, by omega⟩
      by_cases q2 : a2 = 0
      ·subst q2
       have p1 : ((0 : Int) ≤ (m : Int)) = True := eq_true q1
       go_wp2_with (fail)
       go_meet
       case rel => exact ⟨_, _, _, _, rfl, hnb.out, HSAME, HB4⟩
      ·obtain ⟨x, rfl⟩ : ∃ x : Nat, a2 = x := ⟨a2.toNat, by have := HW2.out; omega⟩
       have p1 : ((0 : Int) ≤ (m : Int)) = True := eq_true q1
       have p2 : ((x : Int) != 0) = true := bne_iff_ne.2 q2
       have hnbl : nb < 4000000 := by have := HLE.out; have := hnb.out; omega
       have hnb0 : 20 ≤ nb := by have := HFI.out.1; have := hnb.out; omega
       have htm : (m : Int).tmod (nb : Int) = ((m % nb : Nat) : Int):=by rw [Int.tmod_eq_emod_of_nonneg (by omega)];omega
       have hml : m % nb < nb := Nat.mod_lt _ (by omega)
       obtain ⟨pp, hpp⟩ : ∃ pp, pp = m % nb := ⟨_, rfl⟩
       rw [← hpp] at htm hml
       clear hpp
       have hcell:=Kd.R_cell (enc:=Value.int .u8) (h1:=fun _=>rfl) (0 : Int) HR4.out (pp : Int) (by omega) (by have:=hnb.out;omega)
       rw [Int.toNat_natCast] at hcell
       obtain ⟨zc, zf⟩ := hcell
       have hrd : rdOf (0 : Int) (tblB t flt) (pp : Int) = (tblB t flt).getD pp 0:=by unfold rdOf;rw [Int.toNat_natCast]
       rw [hrd] at zc
       have hby:=HBY.out ((tblB t flt).getD pp 0) (by rw [List.getD_eq_getElem?_getD,List.getElem?_eq_getElem (by have:=hnb.out;omega)];exact List.getElem_mem _)
       obtain ⟨y,hy⟩ : ∃ y : Nat,(tblB t flt).getD pp 0 = (y : Int):=⟨((tblB t flt).getD pp 0).toNat,by omega⟩
       have hy2 : y < 256 := by omega
       rw [hy] at zc
       have hset:=first_set (x:=x) HBY.out HFI.out (j:=pp) (by have:=hnb.out;omega) (by omega) (by have:=HW2.out;omega)
       rw [hy, Int.toNat_natCast] at hset
       have HSET := Aside0.mk hset
       have q3 : ((pp : Int) < (nb : Int)) = True := eq_true (by omega)
       have q4 : ((0 : Int) ≤ (pp : Int)) = True := eq_true (by omega)
       have q5 : (pp < nb) = True := eq_true hml
       have hn0 : ((nb : Int) == 0) = false := beq_eq_false_iff_ne.2 (by omega)
       clear hby hset hrd
       go_wp2_with (fail)
       rw [QCrc.xor8 hy2 (by have := HW2.out; omega)]
       go_meet
       case rel =>
        have hp := (Kd.R_put HR4.out (pp : Int) (((y ^^^ x : Nat) : Int))).1
        rw [Int.toNat_natCast] at hp
        have hp2:=Kd.R_reads' (n:=((tblB t flt).set pp ((y ^^^ x : Nat) : Int)).length) (by rw [List.length_set];exact hp)
        refine ⟨_,_,_,(tblB t flt).set pp ((y ^^^ x : Nat) : Int),rfl,by rw [List.length_set];exact hnb.out,⟨hp2.2.2,hp2.2.1,fun c hc=>?_,by rw [List.length_set];exact HLE.out,.inr HSET.out⟩,⟨below_set0 HB4.out HG2.out⟩⟩
        rcases List.mem_or_eq_of_mem_set hc with h | h
        ·exact HBY.out c h
        ·rw [h]
         have := Nat.xor_lt_two_pow (n := 8) hy2 (show x < 2 ^ 8 by have := HW2.out; omega)
         omega
     ·have p1 : (0 ≤ a1) = False := eq_false q1
      go_wp2_with (fail)
      go_meet
      case rel => exact ⟨_, _, _, _, rfl, hnb.out, HSAME, HB4⟩
   case rest =>
    obtain ⟨A, n, c, b', rfl, hn, HSP, HB5⟩ := hcut
    obtain ⟨wx, hwx⟩ : ∃ wx, wx = wc := ⟨_, rfl⟩
    subst hwx
    obtain ⟨hC, hcc, hby, hbl, hor⟩ := HSP.out
    have HNn := Aside0.mk hn
    rcases hor with hq | hq
    ·subst hq
     have HOPN := Aside0.mk (HT.out.opn A c wx hC hcc)
     rw [← HNn.out] at HOPN
     clear hC hcc hby hbl HSP HR4 HB4 HG2 HBQ hn
     obtain ⟨bl, hbl_⟩ : ∃ bl, bl = (cutB [] t).length := ⟨_, rfl⟩
     rw [← hbl_] at HOPN
     have HCT : Aside0 (∀ w',Below w3.heap.size w3 w' → Kd.C k28 w' A1 t.length t):=⟨fun w' h=>Kd.C_below HX.out.2 h⟩
     have HEQ : Aside0 (∀ w' A3 c3,Below w3.heap.size w3 w' → Kd.C k28 w' A3 t.length t → t.length ≤ c3 → Calls Try.prog 15 #[.slice A3 n1 c3,.slice A1 n1 c1] w' fun e w''=>e = .returned (.bool true)∧Below w'.heap.size w' w''):=⟨fun w' A3 c3 h h1 h2=>by rw [hn1.out];exact incipitref12_EqAll.calls KE A3 c3 t A1 c1 t true w' h1 h2 (HCT.out w' h) HX.out.1 HKE.out⟩
     have HALL : Aside0 (∀ w' g,TabI w' g t flt bl → Calls Try.prog 31 #[.pointer (some ⟨g,0,none⟩)] w' fun e w''=>∃ A3 c3,e = .returned (.tuple #[.slice A3 n1 c3,.int .i64 0])∧Kd.C k28 w'' A3 t.length t∧t.length ≤ c3∧Below w'.heap.size w' w''):=⟨fun w' g hI=>(table_All.calls w' g t flt bl hI (by have:=HN1.out;omega)).mono (by
      rintro e w'' ⟨v, rfl, hR, hb⟩
      obtain ⟨A3, c3, e3⟩ := Kd.R_slice hR
      subst e3
      have hX := Kd.R_reads' hR
      exact ⟨A3, c3, by rw [hn1.out], hX.2.2, hX.2.1, hb⟩)⟩
     have HFR : Aside0 (∀ w' g,TabI w' g t flt bl → Calls Try.prog 28 #[.pointer (some ⟨g,0,none⟩),.string a4] w' fun e w''=>∃ A3 c3,e = .returned (.tuple #[.slice A3 (t.drop (cntF a4 t)).length c3,.int .i64 0])∧Kd.C k28 w'' A3 (t.drop (cntF a4 t)).length (t.drop (cntF a4 t))∧(t.drop (cntF a4 t)).length ≤ c3∧Below w'.heap.size w' w''):=⟨fun w' g hI=>(table_From.calls w' g t flt bl a4 hI (by have:=HN1.out;omega)).mono (by
      rintro e w'' ⟨v, rfl, hR, hb⟩
      rw [from_at t a4 HS.out] at hR
      obtain ⟨A3, c3, e3⟩ := Kd.R_slice hR
      subst e3
      have hX := Kd.R_reads' hR
      exact ⟨A3, c3, rfl, hX.2.2, hX.2.1, hb⟩)⟩
     have HCF := Aside0.mk (cntF_iff a4 t HS.out)
     have hcle := cntF_le a4 t
     have hnn2 : n1 = t.length := hn1.out
     have hcl1 : cntF a4 t ≤ n1 := by omega
     obtain ⟨kc, hkc⟩ : ∃ kc, kc = cntF a4 t := ⟨_, rfl⟩
     rw [← hkc] at HFR HCF hcl1
     have hn30 : n1 ≤ 30 := by have := HN1.out; omega
     obtain ⟨KD, hKD⟩ := EqAll_self (t.drop kc) (by rw [List.length_drop]; have := HN1.out; omega)
     have HKD := Aside0.mk (hKD KD (Nat.le_refl _))
     obtain ⟨nd, hnd⟩ : ∃ nd, Aside0 (nd = (t.drop kc).length) := ⟨_, ⟨rfl⟩⟩
     have hnd2 : nd = n1 - kc := by rw [hnd.out, List.length_drop]; omega
     have HFR2 : Aside0 (∀ w' g,TabI w' g t flt bl → Calls Try.prog 28 #[.pointer (some ⟨g,0,none⟩),.string a4] w' fun e w''=>∃ A3 c3,e = .returned (.tuple #[.slice A3 nd c3,.int .i64 0])∧Kd.C k28 w'' A3 (t.drop kc).length (t.drop kc)∧(t.drop kc).length ≤ c3∧Below w'.heap.size w' w''):=⟨fun w' g hI=>by rw [hnd.out];exact HFR.out w' g hI⟩
     have HND := Aside0.mk hnd2
     clear hKD hkc hcle hbl_ hnn2 HFR hnd2
     go_wp2_with (first
      | (go_at_call 23;refine HOPN.out.mono ?_;rintro e w6 ⟨g,rfl,hI,hb⟩;have HI6:=Aside0.mk hI;have HB6:=Aside0.mk (below_step HB5.out hb);clear hI hb)
      | (go_at_call 31;refine (HALL.out _ g HI6.out).mono ?_;rintro e w9 ⟨A3,c3,rfl,hC,hc,hb⟩;have HI9:=Aside0.mk (HI6.out.below hb);have HB9:=Aside0.mk (below_step HB6.out hb);have HC9:=Aside0.mk (And.intro hC hc);clear hC hc hb)
      | (go_at_call 15;refine (HEQ.out _ A3 c3 HB9.out HC9.out.1 HC9.out.2).mono ?_;rintro e w10 ⟨rfl,hb⟩;have HI10:=Aside0.mk (HI9.out.below hb);have HB10:=Aside0.mk (below_step HB9.out hb);clear hb)
      | (go_at_call 28;refine (HFR2.out _ g HI10.out).mono ?_;rintro e w11 ⟨A4,c4,rfl,hC,hc,hb⟩;have HI11:=Aside0.mk (HI10.out.below hb);have HB11:=Aside0.mk (below_step HB10.out hb);have HC11:=Aside0.mk (And.intro hC hc);clear hC hc hb))
     go_loopg [17] kc (fun kx s17 wr=>∃ j : Nat,s17 = .int .i64 j∧j ≤ kc∧kc - j ≤ kx∧Aside0 (Below w11.heap.size w11 wr))
     case atStart => exact ⟨0, rfl, Nat.zero_le _, by omega, ⟨Below.refl _ _⟩⟩
     case round =>
      obtain ⟨j, rfl, hjn, hjk, HBL⟩ := hrel
      have HBW := Aside0.mk (below_step HB11.out HBL.out)
      by_cases hj : j < kc
      ·cases gk with
       | zero => omega
       | succ k1 =>
       have hjt : j < t.length := by have := hn1.out; omega
       obtain ⟨ad, rfl, h0, _, _, _, _⟩ := at_T28 (HCT.out wr HBW.out) (j : Int) (by omega) (by omega)
       have p1 : ((0 : Int) ≤ (j : Int)) = True := eq_true (by omega)
       have p2 : ((j : Int) < (n1 : Int)) = True := eq_true (by omega)
       have p3 : (j < n1) = True := eq_true (by omega)
       have hlt := (HCF.out j hjt).2 hj
       rw [Int.toNat_natCast] at h0
       rw [rd_T28_nat t j hjt] at h0
       generalize t[j].f0 = y at h0 hlt
       go_wp2
       go_roundg k1
       case measure => omega
       case rel => exact ⟨j + 1, by rw [Int.natCast_add]; rfl, by omega, by omega, HBL⟩
      ·obtain rfl : j = kc := by omega
       go_upto_region 20 with (fail)
       go_cut [124] (fun s124 wd => s124 = .bool false ∧ Aside0 (Below wr.heap.size wr wd))
       case first =>
        by_cases hj2 : j < n1
        ·have hjt : j < t.length := by have := hn1.out; omega
         obtain ⟨ad, rfl, h0, _, _, _, _⟩ := at_T28 (HCT.out wr HBW.out) (j : Int) (by omega) (by omega)
         have p1 : ((0 : Int) ≤ (j : Int)) = True := eq_true (by omega)
         have p2 : ((j : Int) < (n1 : Int)) = True := eq_true (by omega)
         have p3 : (j < n1) = True := eq_true hj2
         have hlt : Op.bytesLess (t[j].f0).toList a4.toList = false := by
          cases hb_ : Op.bytesLess (t[j].f0).toList a4.toList with
          | false => rfl
          | true => have := (HCF.out j hjt).1 hb_; omega
         rw [Int.toNat_natCast] at h0
         rw [rd_T28_nat t j hjt] at h0
         generalize t[j].f0 = y at h0 hlt
         go_wp2
         go_meet
         case rel=>exact ⟨rfl,⟨by repeat (first | exact Below.refl _ _ | apply below_alloc | apply pw_below_drewN | apply below_drew1)⟩⟩
        ·have p2 : ((j : Int) < (n1 : Int)) = False := eq_false (by omega)
         have p3 : (j < n1) = False := eq_false hj2
         go_wp2
         go_meet
         case rel=>exact ⟨rfl,⟨by repeat (first | exact Below.refl _ _ | apply below_alloc | apply pw_below_drewN | apply below_drew1)⟩⟩
       case rest =>
        obtain ⟨rfl, HBd⟩ := hcut
        obtain ⟨wy, hwy⟩ : ∃ wy, wy = wc := ⟨_, rfl⟩
        subst hwy
        have HBY2 := Aside0.mk (below_step HBW.out HBd.out)
        obtain ⟨A5,c5,hcut5,hC5,hc5⟩:=C_cut28 (HCT.out wy HBY2.out) (m:=j) (by have:=hn1.out;omega) HX.out.1
        rw [← hn1.out, ← hnd.out] at hcut5
        have HC5 := Aside0.mk (And.intro hC5 hc5)
        have HEQ5 : Aside0 (Calls Try.prog 15 #[.slice A4 nd c4,.slice A5 nd c5] wy fun e w''=>e = .returned (.bool true)∧Below wy.heap.size wy w''):=⟨by rw [hnd.out];exact incipitref12_EqAll.calls KD A4 c4 (t.drop j) A5 c5 (t.drop j) true wy (Kd.C_below HC11.out.1 (below_step HBL.out HBd.out)) HC11.out.2 hC5 hc5 HKD.out⟩
        clear hC5 hc5
        go_wp2_with (first | (go_at_call 15;refine HEQ5.out.mono ?_;rintro e w12 ⟨rfl,hb⟩;have HB12:=Aside0.mk (below_step HBY2.out hb);have HI12:=Aside0.mk (HI11.out.below (below_step (below_step HBL.out HBd.out) hb));clear hb))
        go_loopg [18] n1 (fun kx s18 wr=>∃ i : Nat,s18 = .int .i64 i∧i ≤ n1∧n1 - i ≤ kx∧Aside0 (Below w12.heap.size w12 wr))
        case atStart => exact ⟨0, rfl, Nat.zero_le _, by omega, ⟨Below.refl _ _⟩⟩
        case round =>
         obtain ⟨i, rfl, hie, hik, HL⟩ := hrel
         obtain ⟨wz, hwz⟩ : ∃ wz, wz = wr := ⟨_, rfl⟩
         subst hwz
         have HBZ := Aside0.mk (below_step HB12.out HL.out)
         have HIZ := Aside0.mk (HI12.out.below HL.out)
         clear HBW HBd HBY2 HB12 HI12 HEQ5 HC5 hcut5 HC11 HI11 HC9 HI9 HI10 HI6
         by_cases hi : i < n1
         ·cases gk with
          | zero => omega
          | succ k1 =>
          have hit : i < t.length := by have := hn1.out; omega
          have hxm : t[i] ∈ t := List.getElem_mem hit
          have hx : rd_T28 t (i : Int) = t[i] := rd_T28_nat t i hit
          obtain ⟨ad, rfl, _, _, _, _, _⟩ := at_T28 (HCT.out wz HBZ.out) (i : Int) (by omega) (by omega)
          have GA : Aside0 (∀ w',Below wz.heap.size wz w' → w'.cell? (ad.add (i * 5)) = some (.string (t[i]).f0)∧w'.cell? ⟨(ad.add (i * 5)).block,(ad.add (i * 5)).off + 1,none⟩ = some (.int .i64 (t[i]).f1)∧w'.cell? ⟨(ad.add (i * 5)).block,(ad.add (i * 5)).off + 2,none⟩ = some (.int .i64 (t[i]).f2)∧w'.cell? ⟨(ad.add (i * 5)).block,(ad.add (i * 5)).off + 3,none⟩ = some (.string (t[i]).f3)∧w'.cell? ⟨(ad.add (i * 5)).block,(ad.add (i * 5)).off + 4,none⟩ = some (.string (t[i]).f4)):=⟨fun w' h=>by
           obtain ⟨ad2,e2,h0,h1,h2,h3,h4⟩:=at_T28 (HCT.out w' (below_step HBZ.out h)) (i : Int) (by omega) (by omega)
           injection e2 with e2
           subst e2
           rw [hx] at h0 h1 h2 h3 h4
           rw [Int.toNat_natCast] at h0
           simp only [Int.toNat_natCast] at h1 h2 h3 h4
           exact ⟨h0, h1, h2, h3, h4⟩⟩
          have hxo := HO.out _ hxm
          have hfs := rfind_self HS.out hxm
          have HGET : Aside0 (∀ w',Below wz.heap.size wz w' → Calls Try.prog 24 #[.pointer (some ⟨g,0,none⟩),.string (t[i]).f0,.int .i64 (t[i]).f1] w' fun e w''=>e = .returned (.tuple #[.agg #[.string (t[i]).f0,.int .i64 (t[i]).f1,.int .i64 (t[i]).f2,.string (t[i]).f3,.string (t[i]).f4],.bool true,.int .i64 0])∧Below w'.heap.size w' w''):=⟨fun w' h=>table_GetS.calls w' g t flt bl (t[i]).f0 (t[i]).f1 t[i] true (HIZ.out.below h) (by have:=HN1.out;omega) HS.out HT.out.ok (by rw [maxLen_eq];have:=hxo.2.2.1;omega) (by rw [hfs];rfl) (by rw [hfs];rfl)⟩
          clear hx hxm hxo hfs
          generalize t[i] = x at *
          have p1 : ((i : Int) < (n1 : Int)) = True := eq_true (by omega)
          have p2 : ((0 : Int) ≤ (i : Int)) = True := eq_true (by omega)
          have p3 : (i < n1) = True := eq_true hi
          have z0 := (GA.out wz (Below.refl _ _)).1
          have hbl_ : (ad.add (i * 5)).block < wz.heap.size := World.block_lt_of_cell? wz _ z0
          have hk1 : ∀ k : Nat,¬ ad.add (i * 5) = (⟨wz.heap.size,k,none⟩ : Addr):=fun k e=>by rw [e] at hbl_;exact absurd hbl_ (Nat.lt_irrefl _)
          have hk2 : ∀ k : Nat, ¬ (⟨wz.heap.size, k, none⟩ : Addr) = ad.add (i * 5) := fun k e => hk1 k e.symm
          have hk3 : ¬ wz.heap.size = (ad.add (i * 5)).block := by omega
          have hk4 : ¬ (ad.add (i * 5)).block = wz.heap.size := by omega
          have z1 := (GA.out wz (Below.refl _ _)).2.1
          go_wp2_with (fail)
          go_cut [19,20,21] (fun s19 s20 s21 wd=>∃ ez : Nat,s19 = .pointer (some ⟨ez,0,none⟩)∧s20 = .bool true∧s21 = .int .i64 0∧wz.heap.size ≤ ez∧Aside0 (Below wz.heap.size wz wd)∧Aside0 (wd.heap[ez]? = some (.cells #[.string x.f0,.int .i64 x.f1,.int .i64 x.f2,.string x.f3,.string x.f4] 28 (0,0))))
          case first =>
           go_region_held_law (fun w'=>w'.cell? (ad.add (i * 5)) = some (.string x.f0)∧w'.cell? ⟨(ad.add (i * 5)).block,(ad.add (i * 5)).off + 1,none⟩ = some (.int .i64 x.f1)) (first | (with_reducible exact ⟨v0,v1⟩) | (with_reducible exact ⟨z0,z1⟩) | go_keep) (first
           | (go_simp;go_at_call 24;(with_reducible refine (HGET.out _ (below_drew1 (Below.refl _ wz))).mono ?_);rintro e w13 ⟨rfl,hb⟩;have HB13:=Aside0.mk (below_step (below_drew1 (Below.refl _ wz)) hb);have v0:=(GA.out w13 HB13.out).1;have v1:=(GA.out w13 HB13.out).2.1;have hs13:=HB13.out.size;have hj1 : ∀ k : Nat,¬ ad.add (i * 5) = (⟨w13.heap.size,k,none⟩ : Addr):=(fun k e=>by rw [e] at hbl_;exact absurd hbl_ (by show ¬ w13.heap.size < wz.heap.size;omega));have hj2 : ∀ k : Nat,¬ (⟨w13.heap.size,k,none⟩ : Addr) = ad.add (i * 5):=(fun k e=>hj1 k e.symm);have hj3 : ¬ w13.heap.size = (ad.add (i * 5)).block:=(by omega);have hj4 : ¬ (ad.add (i * 5)).block = w13.heap.size:=(by omega);clear hb)
           | (go_simp;go_at_call 24;(with_reducible refine (HGET.out _ (below_drew1 (below_alloc (Below.refl _ wz) (.cells #[.string ⟨#[]⟩,.int .i64 0,.int .i64 0,.string ⟨#[]⟩,.string ⟨#[]⟩] 28)))).mono ?_);rintro e w13 ⟨rfl,hb⟩;have HB13:=Aside0.mk (below_step (below_drew1 (below_alloc (Below.refl _ wz) (.cells #[.string ⟨#[]⟩,.int .i64 0,.int .i64 0,.string ⟨#[]⟩,.string ⟨#[]⟩] 28))) hb);have hz:=(hb.block wz.heap.size (by show wz.heap.size < (wz.alloc (.cells #[.string ⟨#[]⟩,.int .i64 0,.int .i64 0,.string ⟨#[]⟩,.string ⟨#[]⟩] 28)).heap.size;rw [World.size_alloc];omega)).trans (heap_new_ wz (.cells #[.string ⟨#[]⟩,.int .i64 0,.int .i64 0,.string ⟨#[]⟩,.string ⟨#[]⟩] 28));have HZ13:=Aside0.mk hz;have v0:=(GA.out w13 HB13.out).1;have v1:=(GA.out w13 HB13.out).2.1;have e0 : w13.cell? ⟨wz.heap.size,0,none⟩ = some (.string ⟨#[]⟩):=(blk_cell hz 0).trans rfl;have f0:=blk_frozen hz 0;have e1 : w13.cell? ⟨wz.heap.size,1,none⟩ = some (.int .i64 0):=(blk_cell hz 1).trans rfl;have f1:=blk_frozen hz 1;have e2 : w13.cell? ⟨wz.heap.size,2,none⟩ = some (.int .i64 0):=(blk_cell hz 2).trans rfl;have f2:=blk_frozen hz 2;have e3 : w13.cell? ⟨wz.heap.size,3,none⟩ = some (.string ⟨#[]⟩):=(blk_cell hz 3).trans rfl;have f3:=blk_frozen hz 3;have e4 : w13.cell? ⟨wz.heap.size,4,none⟩ = some (.string ⟨#[]⟩):=(blk_cell hz 4).trans rfl;have f4:=blk_frozen hz 4;clear hb hz))
           all_goals go_wp2
           ·go_meet
            case rel=>exact ⟨w13.heap.size,rfl,rfl,rfl,HB13.out.size,⟨below_alloc HB13.out _⟩,⟨heap_new_ w13 _⟩⟩
           ·go_meet
            case rel=>exact ⟨wz.heap.size,rfl,rfl,rfl,Nat.le_refl _,⟨below_set0 (below_set0 (below_set0 (below_set0 (below_set0 HB13.out (Nat.le_refl _)) (Nat.le_refl _)) (Nat.le_refl _)) (Nat.le_refl _)) (Nat.le_refl _)⟩,⟨blk_put (blk_put (blk_put (blk_put (blk_put HZ13.out 0 _ rfl) 1 _ rfl) 2 _ rfl) 3 _ rfl) 4 _ rfl⟩⟩
          case rest =>
           obtain ⟨ez, rfl, rfl, rfl, hez, HBv, HZ⟩ := hcut
           obtain ⟨wv, hwv⟩ : ∃ wv, wv = wc := ⟨_, rfl⟩
           subst hwv
           have GZ : Aside0 (∀ w',Below wv.heap.size wv w' → w'.cell? ⟨ez,0,none⟩ = some (.string x.f0)∧w'.cell? ⟨ez,1,none⟩ = some (.int .i64 x.f1)∧w'.cell? ⟨ez,2,none⟩ = some (.int .i64 x.f2)∧w'.cell? ⟨ez,3,none⟩ = some (.string x.f3)∧w'.cell? ⟨ez,4,none⟩ = some (.string x.f4)):=⟨fun w' h=>by
            have hz := blk_below HZ.out h
            exact ⟨(blk_cell hz 0).trans rfl,(blk_cell hz 1).trans rfl,(blk_cell hz 2).trans rfl,(blk_cell hz 3).trans rfl,(blk_cell hz 4).trans rfl⟩⟩
           have HEQX : Aside0 (∀ w',Calls Try.prog 19 #[.agg #[.string x.f0,.int .i64 x.f1,.int .i64 x.f2,.string x.f3,.string x.f4],.agg #[.string x.f0,.int .i64 x.f1,.int .i64 x.f2,.string x.f3,.string x.f4]] w' fun e w''=>e = .returned (.bool true)∧Below w'.heap.size w' w''):=⟨fun w'=>incipitref12_Eq.calls x.f0 x.f1 x.f2 x.f3 x.f4 x.f0 x.f1 x.f2 x.f3 x.f4 true w' (rEq_self _ _ _ _ _)⟩
           go_wp2_with (fail)
           go_cut [197] (fun s197 wd => s197 = .bool false ∧ Aside0 (Below wv.heap.size wv wd))
           case first =>
             refine quiet_lit (C:=fun w'=>Below wv.heap.size wv w') (by kernel_rfl) (by kernel_rfl) (below_drew1 (Below.refl _ _)) ?_
             repeat (first | go_big_quiet_skip | (go_big_quiet_want;go_big_quiet_op;go_big_quiet_on) | (refine wpQuiet_step (fun K hK=>?_);go_simp;refine ⟨_,fun w' hw'=>rfl,hK _ ?_⟩;clear hK K))
             refine wpQuiet_step (fun K hK => ?_)
             go_simp
             refine ⟨.agg #[.string x.f0,.int .i64 x.f1,.int .i64 x.f2,.string x.f3,.string x.f4],fun w' hw'=>?_,hK _ ?_⟩
             ·obtain ⟨h0, h1, h2, h3, h4⟩ := GZ.out w' hw'
              go_simp
             clear hK K
             repeat (first | go_big_quiet_skip | (go_big_quiet_want;go_big_quiet_op;go_big_quiet_on) | (refine wpQuiet_step (fun K hK=>?_);go_simp;refine ⟨_,fun w' hw'=>rfl,hK _ ?_⟩;clear hK K))
             refine wpQuiet_step (fun K hK => ?_)
             go_simp
             refine ⟨.agg #[.string x.f0,.int .i64 x.f1,.int .i64 x.f2,.string x.f3,.string x.f4],fun w' hw'=>?_,hK _ ?_⟩
             ·obtain ⟨h0, h1, h2, h3, h4⟩ := GA.out w' (below_step HBv.out hw')
              go_simp
             clear hK K
             repeat (first | go_big_quiet_skip | (go_big_quiet_want;go_big_quiet_op;go_big_quiet_on) | (refine wpQuiet_step (fun K hK=>?_);go_simp;refine ⟨_,fun w' hw'=>rfl,hK _ ?_⟩;clear hK K))
             refine wpQuiet_step (fun K hK => ?_)
             go_simp
             refine ⟨.bool true, fun w' hw' => ?_, hK _ ?_⟩
             ·exact (HEQX.out w').mono (fun e w'' hh => ⟨hh.1, below_step hw' hh.2⟩)
             clear hK K
             repeat (first | go_big_quiet_skip | (go_big_quiet_want;go_big_quiet_op;go_big_quiet_on) | (refine wpQuiet_step (fun K hK=>?_);go_simp;refine ⟨_,fun w' hw'=>rfl,hK _ ?_⟩;clear hK K))
             refine wpQuiet_nil ?_
             intro wq hwq
             go_wp2_with (fail)
             go_meet
             case rel => exact ⟨rfl, ⟨hwq⟩⟩
           case rest =>
            obtain ⟨rfl, HBw⟩ := hcut
            go_wp2_with (fail)
            go_roundg k1
            case measure => omega
            case rel=>exact ⟨i + 1,by go_num,by omega,by omega,⟨below_step (below_step HL.out HBv.out) HBw.out⟩⟩
         ·have hie2 : i = n1 := by omega
          subst hie2
          go_wp2_with (fail)
          go_ret
          exact ⟨rfl, below_step HB3.out HBZ.out⟩
    ·have HBAD := Aside0.mk (table_Open_bad.calls A c b' wx hC hcc (by omega) hby hq)
     rw [← HNn.out] at HBAD
     clear hC hcc hby hbl HSP HR4 HB4 HG2 HBQ hn hq
     go_wp2_with (first
      | (go_at_call 23;refine HBAD.out.mono ?_;rintro e w6 ⟨rfl,hb⟩;have HB6:=Aside0.mk (below_step HB5.out hb);clear hb))
     go_ret
     exact ⟨rfl, below_step HB3.out HB6.out⟩
end Go.Proofs.Ytenmljkddhonmaa.MTbl

/- Arguments that are read as data, opened as values of a kind: whole numbers, texts, slices of what can be opened. -/
namespace Go.Proofs.Ytenmljkddhonmaa.QTbl
open Go.RowKit Go.Proofs.Ytenmljkddhonmaa.MTbl Go.Proofs.YtenmljkddhonmaaW.PrintWords Go.Proofs.YtenmljkddhonmaaW.PrintLast Go.Proofs.YtenmljkddhonmaaW.PrintMore
set_option linter.unusedVariables false
set_option linter.unusedSimpArgs false
open Go.ChangeShapes Go.WideShapes Go.Deep
/-- What reads as data of a type is of a kind, and of a kind of values. -/
def Opens {α : Type} (P : Program) (t : TypeId) (d : Kd α) (G : α → Prop) : Prop :=
 ∀ {H : Type} (enc : TypeId × Value → H) (w : World) (n : Nat) (cs : List Value) (y : DataW H × List MemPlace),DataW.trod enc P w 0 (fun _=>true) true n t cs = some y → ∃ x,d.K w x cs∧G x
theorem Opens.int {P : Program} {t : TypeId} {k : IntKind} (ht : P.underlying t = some (.int k)) : Opens P t (Kd.int k) (fun x=>(Lit.int k x).wf = true):=by
 intro H enc w n cs y h
 obtain ⟨x, rfl, _, hw⟩ := DataW.trod_int ht h
 exact ⟨x, rfl, hw⟩
theorem Opens.bool {P : Program} {t : TypeId} (ht : P.underlying t = some .bool) : Opens P t Kd.bool (fun _=>True):=by
 intro H enc w n cs y h
 obtain ⟨x, rfl, _⟩ := DataW.trod_bool ht h
 exact ⟨x, rfl, trivial⟩
theorem Opens.str {P : Program} {t : TypeId} (ht : P.underlying t = some .string) : Opens P t Kd.string (fun s=>s.size ≤ maxLen):=by
 intro H enc w n cs y h
 obtain ⟨x, rfl, _, hw⟩ := DataW.trod_string ht h
 exact ⟨x, rfl, hw⟩
theorem Opens.slice {α : Type} {P : Program} {t e : TypeId} {d : Kd α} {G : α → Prop} (ht : P.underlying t = some (.slice e)) (hc : P.cellsOf e = d.sz) (he : Opens P e d G) :
  Opens P t (Kd.slice e d) (fun xs => xs.length ≤ maxLen ∧ ∀ x ∈ xs, G x) := by
 intro H enc w n cs y h
 rcases open_slice ht h with ⟨rfl, _⟩ | ⟨a, len, cap, m, n', D, Pl, rfl, _, hl, hm, hmm, _, hi⟩
 ·exact ⟨[],⟨none,0,rfl,Nat.le_refl _,⟨rfl,by simp,fun h=>absurd h (Nat.lt_irrefl 0)⟩⟩,Nat.zero_le _,fun x hx=>by cases hx⟩
 ·have hmc : m = cap := by simpa using hmm
  have hch : ∀ i,i < len → ∃ x : α,G x∧∃ c,c.length = d.sz∧d.K w x c∧∀ j u,c[j]? = some u → w.cell? (a.add (i * d.sz + j)) = some u:=by
   intro i hil
   obtain ⟨cs', hcs, htr⟩ := hi i (by omega)
   obtain ⟨x, hK, hG⟩ := he enc w n' cs' _ htr
   refine ⟨x, hG, cs', d.K_len hK, hK, fun j u hu => ?_⟩
   obtain ⟨_, hcl, hat⟩ := World.cells?_some hcs
   have hj := (List.getElem?_eq_some_iff.1 hu).1
   have := hat j (by have := d.K_len hK; omega)
   rw [← hc, ← Go.Deep.add_add, this, hu]
  have hmax : cap ≤ 9223372036854775807 := hm
  refine ⟨List.ofFn (fun i : Fin len=>Classical.choose (hch i i.2)),⟨some a,cap,by simp,by simpa using hl,by simp,by simp;omega,fun _=>⟨a,rfl,fun j p hj=>?_⟩⟩,by simp;omega,fun x hx=>?_⟩
  ·obtain ⟨hjl, hp⟩ := List.getElem?_eq_some_iff.1 hj
   rw [List.getElem_ofFn] at hp
   subst hp
   obtain ⟨_, c, h1, h2, h3⟩ := Classical.choose_spec (hch j (by simpa using hjl))
   exact ⟨c, h1, h2, h3⟩
  ·rw [List.mem_ofFn] at hx
   obtain ⟨i, rfl⟩ := hx
   exact (Classical.choose_spec (hch i i.2)).1
/-- A parameter that is a slice. -/
theorem param_slice {α : Type} {P : Program} {t e : TypeId} {d : Kd α} {G : List α → Prop} (ho : Opens P t (Kd.slice e d) G) {H : Type} {enc : TypeId × Value → H} {w : World} {a : Option Addr} {len cap : Nat} {D : DataW H} {p : List MemPlace}
  (h : DataW.Trod enc P w 0 (fun _=>true) true t (.slice a len cap) D p) : ∃ l,len = l.length∧len ≤ cap∧d.C w a len l∧G l:=by
 obtain ⟨n, hf⟩ := h
 obtain ⟨l, ⟨A, c, e1, hl, hC⟩, hG⟩ := ho enc w n _ _ hf
 have e2 : [Value.slice a len cap] = [.slice A l.length c] := e1
 injection e2 with e3
 injection e3 with h1 h2 h3
 subst h1; subst h3
 exact ⟨l, h2, by omega, by rw [h2]; exact hC, hG⟩
end Go.Proofs.Ytenmljkddhonmaa.QTbl
