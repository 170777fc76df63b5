import Derived.Test.YtenmljkddhonmaaZ10
import Derived.Test.YtenmljkddhonmaaZ9
import Derived.Deep.Slices
import Derived.Deep.Fields
import Derived.ChangeArms
import Derived.ChangeSame
import Derived.WalkKit
import Derived.ProofKit
import Derived.OpenShut
import Derived.Test.YtenmljkddhonmaaZ1
namespace Go.Proofs.Ytenmljkddhonmaa.MTbl
open Go.RowKit Go.Proofs.Ytenmljkddhonmaa.QTbl Go.Proofs.YtenmljkddhonmaaW.PrintWords Go.Proofs.YtenmljkddhonmaaW.PrintLast Go.Proofs.YtenmljkddhonmaaW.PrintMore
set_option linter.unusedVariables false
set_option linter.unusedSimpArgs false
/-! PURE: how long a table is -/
def wgh : List S28 → Nat
  | [] => 0
  | x :: t => (x.f0.size + x.f3.size + x.f4.size) + wgh t
theorem wgh_append : ∀ a b, wgh (a ++ b) = wgh a + wgh b
  | [], b => by simp [wgh]
  | x :: t, b => by rw [List.cons_append, wgh, wgh, wgh_append t b]; omega
theorem okE_okB {x : S28} (h : okE x) : okB x ∧ okM x = true := by
  obtain ⟨h1, h2, h3, h4, h5, h6⟩ := h
  refine ⟨⟨⟨h1, h2, h3⟩, by omega, by omega⟩, ?_⟩
  unfold okM
  rw [decide_eq_true h1.1, decide_eq_true h1.2]
  rcases h2 with h | h
  · have e4 : x.f4.toList = [] := by rw [h6 h, Lib.toList_data]
    rw [e4]; simp [h]
  · simp [h]
theorem weigh_l0 (l : List S28) (hb : ∀ x ∈ l,okE x) (hl : l.length ≤ 1000) (d : Nat) : ∀ (i acc : Nat),l.length - i = d → i ≤ l.length → acc ≤ 200 * i → Ev (fun k => incipitlaw17_weigh.l0 k l (acc : Int) (i : Int)) ((acc + wgh (l.drop i) : Nat) : Int) := by
  induction d with
  | zero =>
    intro i acc hd hi ha
    refine Ev.succ ?_
    simp only [incipitlaw17_weigh.l0]
    refine Ev.ite_neg (by omega) ?_
    rw [List.drop_eq_nil_of_le (by omega)]
    exact Ev.now _
  | succ d ih =>
    intro i acc hd hi ha
    have hlt : i < l.length := by omega
    refine Ev.succ ?_
    simp only [incipitlaw17_weigh.l0, rd_T28_nat l i hlt]
    refine Ev.ite_pos (by omega) (Ev.ite_pos (by omega) ?_)
    obtain ⟨_, _, h3, h4, h5, _⟩ := hb l[i] (List.getElem_mem hlt)
    have := ih (i + 1) (acc + ((l[i]).f0.size + (l[i]).f3.size + (l[i]).f4.size)) (by omega) (by omega) (by omega)
    rw [wrap64_id (n := ((l[i]).f0.size : Int) + ((l[i]).f3.size : Int)) (by omega) (by omega),wrap64_id (n := ((l[i]).f0.size : Int) + ((l[i]).f3.size : Int) + ((l[i]).f4.size : Int)) (by omega) (by omega),wrap64_id (n := (acc : Int) + _) (by omega) (by omega),wrap64_id (n := (i : Int) + 1) (by omega) (by omega)]
    rw [List.drop_eq_getElem_cons hlt, wgh, ← Nat.add_assoc]
    exact this
theorem weigh_ev (l : List S28) (hb : ∀ x ∈ l, okE x) (hl : l.length ≤ 1000) : Ev (fun k => incipitlaw17_weigh.f k l) (wgh l : Int) := by
  have := weigh_l0 l hb hl l.length 0 0 rfl (Nat.zero_le _) (Nat.zero_le _)
  rw [List.drop_zero, Nat.zero_add] at this
  exact this
theorem addT_len (s : St) (k v : ByteArray) (hk : k.size < 128) (hv : v.size < 128) : (addT s k v).b.length + (addT s k v).p.length ≤ s.b.length + s.p.length + 7 + k.size + v.size := by
  have hsh : s.sh k ≤ k.size := by
    unfold St.sh
    split
    · omega
    · have := (cpl_le (bytesOf s.last) (bytesOf k)).2
      rw [bytesOf_length] at this; exact this
  have hp : (addT s k v).p.length ≤ s.p.length + 4 := by
    unfold addT
    simp only
    split
    · rw [List.length_append, fix_length]; omega
    · omega
  have hb : (addT s k v).b.length ≤ s.b.length + 3 + k.size + v.size := by
    unfold addT
    simp only [List.length_append, put_small (show s.sh k < 128 by omega), put_small (show k.size - s.sh k < 128 by omega), put_small hv, List.length_singleton, List.length_drop, bytesOf_length]
    omega
  omega
theorem addTs_len : ∀ (c : List S28) (s : St), (∀ x ∈ c, okE x) → (addTs s (c.map rowOf)).b.length + (addTs s (c.map rowOf)).p.length ≤ s.b.length + s.p.length + 2 * wgh c + 19 * c.length
  | [], s, _ => by simp [addTs, wgh]
  | x :: t, s, h => by
    have hx := h x (List.mem_cons_self ..)
    obtain ⟨_, _, h3, h4, h5, _⟩ := id hx
    have hk : (keyS x).size ≤ 2 * x.f0.size + 11 := by rw [keyS_size]; exact keyL_length
    have hv : (valS x).size = 1 + x.f3.size + x.f4.size := by rw [valS_size (by omega), put_small (by omega)]; rfl
    have ih := addTs_len t (addT s (rowOf x).f0 (rowOf x).f1) (fun y hy => h y (List.mem_cons_of_mem _ hy))
    have ha := addT_len s (keyS x) (valS x) (by omega) (by omega)
    have e0 : (rowOf x).f0 = keyS x := rfl
    have e1 : (rowOf x).f1 = valS x := rfl
    rw [e0, e1] at ih
    rw [List.map_cons]
    simp only [addTs, wgh, List.length_cons, e0, e1]
    omega
theorem blk_len {c : List S28} (h : ∀ x ∈ c, okE x) : (blk c).length ≤ 2 * wgh c + 19 * c.length + 4 := by
  have := addTs_len c St0 h
  have e1 : St0.b.length = 0 := rfl
  have e2 : St0.p.length = 0 := rfl
  unfold blk
  rw [out_length]
  unfold szB stOf
  omega
theorem blks_len : ∀ (cs : List (List S28)), (∀ c ∈ cs, ∀ x ∈ c, okE x) → (cs.flatMap blk).length ≤ 2 * wgh cs.flatten + 19 * cs.flatten.length + 4 * cs.length
  | [], _ => by simp
  | c :: t, h => by
    have ih := blks_len t (fun d hd => h d (List.mem_cons_of_mem _ hd))
    have hc := blk_len (h c (List.mem_cons_self ..))
    rw [List.flatMap_cons, List.flatten_cons, wgh_append]
    simp only [List.length_append, List.length_cons]
    omega
theorem tblB_len {l : List S28} {flt : List Int} (hne : l ≠ []) (hl : l.length ≤ 1000) (h : ∀ x ∈ l,okE x) (hf : flt.length ≤ 2 * l.length + 20) : (tblB l flt).length ≤ 2 * wgh l + 60 * l.length + 100 := by
  have hfl := cutB_flat l [] hne
  rw [List.nil_append] at hfl
  have h1 := blks_len (cutB [] l) (fun c hc x hx => h x (cutB_mem hne hc hx))
  rw [hfl] at h1
  have hcn := cutB_length_le l []
  have ho : ∀ x ∈ l, okB x := fun x hx => (okE_okB (h x hx)).1
  have hsz : (sizesB l).length ≤ 10 * (cutB [] l).length := by
    have := flatMap_length_le (fun c => put (blk c).length) 10 (cutB [] l) (fun c hc => by have := blk_length ho hc; exact put_length10 (by omega))
    unfold sizesB; omega
  have hpl := put_length10 (n := (cutB [] l).length) (by omega)
  have htl : (tailB l flt).length = (put (cutB [] l).length).length + (sizesB l).length + flt.length := by unfold tailB; simp only [List.length_append]
  have hlen := tblB_length l flt
  have hr : (rowsB l).length = ((cutB [] l).flatMap blk).length := rfl
  omega
end Go.Proofs.Ytenmljkddhonmaa.MTbl

namespace Go.Proofs.Ytenmljkddhonmaa.MTbl
open Go.RowKit Go.BigFrame Go.Proofs.Ytenmljkddhonmaa.QTbl Go.Proofs.YtenmljkddhonmaaW.PrintWords Go.Proofs.YtenmljkddhonmaaW.PrintLast Go.Proofs.YtenmljkddhonmaaW.PrintMore
set_option linter.unusedVariables false
set_option linter.unusedSimpArgs false
theorem quiet_lit {P : Program} {C : World → Prop} {id : Nat} {Q : Exit → Act → World → Prop} {a : Act} {w : World} {l : List Oper} (hm : P.follows .mixedOrders = true) (hB : Region.lexB .any l.toArray = true) (hC : C w.drew)
    (h : wpQuiet P l.toArray C (fun a' => ∀ w', C w' → Q .normal a' w') l a) : (Code.region id l.toArray true).wp P Q a w :=
  wp_region_quiet (C := C) hm hB hC (by simpa using h)
theorem wgh_le : ∀ {t : List S28}, (∀ x ∈ t, okE x) → wgh t ≤ 120 * t.length
  | [], _ => by simp [wgh]
  | x :: t, h => by
    obtain ⟨_, _, h3, h4, h5, _⟩ := h x (List.mem_cons_self ..)
    have := wgh_le (t := t) (fun y hy => h y (List.mem_cons_of_mem _ hy))
    rw [wgh, List.length_cons]; omega
theorem okE_tab {t : List S28} (hne : t ≠ []) (hl : t.length ≤ 1000) (hs : t.Pairwise srtR) (ho : ∀ x ∈ t, okE x) : ∃ flt, Tab t flt :=
  Tab.of hne hl hs (fun x hx => (okE_okB (ho x hx)).1) (mayL_of _ _ hs (fun x hx => (okE_okB (ho x hx)).2) (fun q hq => by cases hq))
set_option maxHeartbeats 2000000 in
set_option maxRecDepth 1000000 in
theorem incipitlaw17_TableAll.calls (A0 : Option Addr) (c0 : Nat) (l0 : List S28) (a1 : ByteArray) (a2 : Int) (w : World) (hr0 : Kd.C k28 w A0 l0.length l0) (hc0 : l0.length ≤ c0) (hm1 : a1.size ≤ maxLen) :
    Calls Try.prog 9 #[.slice A0 l0.length c0, .string a1, .int .i64 a2] w fun e w' => e = .returned (.bool true) ∧ Below w.heap.size w w' := by
  have hu28 := Try.underlying28
  have HBEG := Aside0.mk (law_begun.calls w)
  obtain ⟨t, ⟨K, hK⟩, htl, hts, hto⟩ := Sort_ev l0 60 (by omega)
  have HK := Aside0.mk (hK K (Nat.le_refl _))
  have HR0 := Aside0.mk (And.intro hr0 hc0)
  have HS := Aside0.mk hts
  have HO := Aside0.mk hto
  have HM1 := Aside0.mk hm1
  clear hK hr0 hc0 hts hto hm1
  by_cases hne : t = []
  · subst hne
    obtain ⟨k, hk⟩ := may_nil
    have HKN := Aside0.mk hk
    clear hk
    go_enter Try.func9, Try.ntmps9
    go_wp2_with (first
      | (go_at_call 20; refine HBEG.out.mono ?_; rintro e w2 ⟨rfl, hb⟩; have HB := Aside0.mk hb; clear hb)
      | (go_at_call 29;refine (incipitlaw7_Sort.calls K A0 c0 l0 60 [] w2 (Kd.C_below HR0.out.1 HB.out) HR0.out.2 HK.out).mono ?_;rintro e w3 ⟨v,rfl,hR,hb⟩;obtain ⟨A1,c1,e1⟩ := Kd.R_slice hR;subst e1;have hX := Kd.R_reads' hR;have HX := Aside0.mk (table_Build_no.calls k A1 c1 [] w3 hX.2.2 hX.2.1 HKN.out);rw [List.length_nil] at HX;have HB3 := Aside0.mk (below_step HB.out hb);rw [List.length_nil];clear hR hb hX)
      | (go_at_call 22; refine HX.out.mono ?_; rintro e w4 ⟨rfl, hb⟩; have HB4 := Aside0.mk (below_step HB3.out hb); clear hb))
    go_ret
    exact ⟨rfl, HB4.out⟩
  · obtain ⟨flt, hT⟩ := okE_tab hne (by omega) HS.out HO.out
    have HT := Aside0.mk hT
    obtain ⟨KW, hKW⟩ := weigh_ev t HO.out (by omega)
    have HKW := Aside0.mk (hKW KW (Nat.le_refl _))
    obtain ⟨KE, hKE⟩ := EqAll_self t (by omega)
    have HKE := Aside0.mk (hKE KE (Nat.le_refl _))
    have HLEN := Aside0.mk (tblB_len hne (by omega) HO.out hT.fl)
    have hbl := cutB_pos t hne
    have HBL := Aside0.mk (And.intro hbl (cutB_length_le t []))
    obtain ⟨bl, hbl_⟩ : ∃ bl, bl = (cutB [] t).length := ⟨_, rfl⟩
    rw [← hbl_] at HBL
    have HBE := Aside0.mk hbl_
    have hn1 : 0 < t.length := List.length_pos_iff.2 hne
    have HN1 := Aside0.mk (And.intro hn1 htl)
    clear hT hKW hKE hbl hbl_ hn1 hne htl
    go_enter Try.func9, Try.ntmps9
    go_wp2_with (first
      | (go_at_call 20; refine HBEG.out.mono ?_; rintro e w2 ⟨rfl, hb⟩; have HB := Aside0.mk hb; clear hb)
      | (go_at_call 29;refine (incipitlaw7_Sort.calls K A0 c0 l0 60 t w2 (Kd.C_below HR0.out.1 HB.out) HR0.out.2 HK.out).mono ?_;rintro e w3 ⟨v,rfl,hR,hb⟩;obtain ⟨A1,c1,e1⟩ := Kd.R_slice hR;subst e1;have hX := Kd.R_reads' hR;have HX := Aside0.mk hX.2;obtain ⟨n1,hn1⟩ : ∃ n1,Aside0 (n1 = t.length) := ⟨_,⟨rfl⟩⟩;rw [← hn1.out];have HB3 := Aside0.mk (below_step HB.out hb);clear hR hb hX))
    have HBU := Aside0.mk (HT.out.build A1 c1 w3 HX.out.2 HX.out.1)
    have HCT : Aside0 (∀ w', Below w3.heap.size w3 w' → Kd.C k28 w' A1 t.length t) := ⟨fun w' h => Kd.C_below HX.out.2 h⟩
    have HWE : Aside0 (∀ w',Below w3.heap.size w3 w' → Calls Try.prog 30 #[.slice A1 n1 c1] w' fun e w'' => e = .returned (.int .i64 (wgh t : Int)) ∧ Drawn0 w' w'') := ⟨fun w' h => by rw [hn1.out];exact incipitlaw17_weigh.calls KW A1 c1 t (wgh t : Int) w' (HCT.out w' h) HX.out.1 HKW.out⟩
    have HEQ : Aside0 (∀ w' A3 c3,Below w3.heap.size w3 w' → Kd.C k28 w' A3 t.length t → t.length ≤ c3 → Calls Try.prog 15 #[.slice A3 n1 c3,.slice A1 n1 c1] w' fun e w'' => e = .returned (.bool true) ∧ Below w'.heap.size w' w'') := ⟨fun w' A3 c3 h h1 h2 => by rw [hn1.out];exact incipitref12_EqAll.calls KE A3 c3 t A1 c1 t true w' h1 h2 (HCT.out w' h) HX.out.1 HKE.out⟩
    have HGE : Aside0 (∀ w' g s q,Below w3.heap.size w3 w' → TabI w' g t flt bl → s.size ≤ maxLen → Calls Try.prog 32 #[.pointer (some ⟨g,0,none⟩),.slice A1 n1 c1,.string s,.int .i64 q] w' fun e w'' => e = .returned (.bool true) ∧ Below w'.heap.size w' w'') := ⟨fun w' g s q h hI hs => by rw [hn1.out];exact law_gets.calls w' g t flt bl s q A1 c1 hI (by have := HN1.out;omega) HS.out HT.out.ok hs (HCT.out w' h) HX.out.1⟩
    have HFR : Aside0 (∀ w' g s,Below w3.heap.size w3 w' → TabI w' g t flt bl → Calls Try.prog 33 #[.pointer (some ⟨g,0,none⟩),.slice A1 n1 c1,.string s] w' fun e w'' => e = .returned (.bool true) ∧ Below w'.heap.size w' w'') := ⟨fun w' g s h hI => by rw [hn1.out];exact law_from.calls w' g t flt bl s A1 c1 hI (by have := HN1.out;omega) HS.out (HCT.out w' h) HX.out.1⟩
    have HALL : Aside0 (∀ w' g,TabI w' g t flt bl → Calls Try.prog 31 #[.pointer (some ⟨g,0,none⟩)] w' fun e w'' => ∃ A3 c3,e = .returned (.tuple #[.slice A3 n1 c3,.int .i64 0]) ∧ Kd.C k28 w'' A3 t.length t ∧ t.length ≤ c3 ∧ Below w'.heap.size w' w'') := ⟨fun w' g hI => (table_All.calls w' g t flt bl hI (by have := HN1.out;omega)).mono (by
      rintro e w'' ⟨v, rfl, hR, hb⟩
      obtain ⟨A3, c3, e3⟩ := Kd.R_slice hR
      subst e3
      have hX := Kd.R_reads' hR
      exact ⟨A3, c3, by rw [hn1.out], hX.2.2, hX.2.1, hb⟩)⟩
    have HLE : Aside0 (∀ w' g,TabI w' g t flt bl → Calls Try.prog 26 #[.pointer (some ⟨g,0,none⟩)] w' fun e w'' => e = .returned (.int .i64 n1) ∧ w'' = w') := ⟨fun w' g hI => by rw [hn1.out];exact table_Len.calls w' g t flt bl hI⟩
    rw [← hn1.out] at HBU
    have hnn : 0 < n1 ∧ n1 ≤ 60 := by have := HN1.out; have := hn1.out; omega
    have hnn1 := hnn.1
    have hnn2 := hnn.2
    have hn0 : ((n1 : Int) == 0) = false := beq_eq_false_iff_ne.2 (by omega)
    have hself : ((n1 : Int) != (n1 : Int)) = false := by simp
    obtain ⟨nb, hnb⟩ : ∃ nb, Aside0 (nb = (tblB t flt).length) := ⟨_, ⟨rfl⟩⟩
    have HOPN : Aside0 (∀ A c w',Kd.C (Kd.int .u8) w' A (tblB t flt).length (tblB t flt) → (tblB t flt).length ≤ c → Calls Try.prog 23 #[.slice A nb c] w' fun e w'' => ∃ g,e = .returned (.tuple #[.pointer (some ⟨g,0,none⟩),.int .i64 0]) ∧ TabI w'' g t flt bl ∧ Below w'.heap.size w' w'') := ⟨fun A c w' h1 h2 => by rw [hnb.out,HBE.out];exact HT.out.opn A c w' h1 h2⟩
    obtain ⟨wg, hwg⟩ : ∃ wg, Aside0 (wg = wgh t) := ⟨_, ⟨rfl⟩⟩
    rw [← hwg.out] at HWE
    have hsz : nb ≤ 2 * wg + 60 * n1 + 100 := by have := HLEN.out; have := hnb.out; have := hwg.out; have := hn1.out; omega
    have hwgb : wg ≤ 1000000 := by have := wgh_le HO.out; have := hwg.out; have := HN1.out; omega
    have p7 : ((2 * (wg : Int) + 60 * (n1 : Int) + 100 < (nb : Int))) = False := eq_false (by omega)
    have p8 : ((bl : Int) < 1) = False := eq_false (by have := HBL.out; omega)
    go_wp2_with (first
      | (go_at_call 22;refine HBU.out.mono ?_;rintro e w4 ⟨v,rfl,hR,hb⟩;obtain ⟨A2,c2,e2⟩ := Kd.R_slice hR;subst e2;rw [← hnb.out];have hX := Kd.R_reads' hR;have HO4 := Aside0.mk (HOPN.out A2 c2 w4 hX.2.2 hX.2.1);have HB4 := Aside0.mk hb;clear hR hb hX)
      | (go_at_call 23; refine HO4.out.mono ?_; rintro e w5 ⟨g, rfl, hI, hb⟩; have HI5 := Aside0.mk hI; have HB5 := Aside0.mk (below_step HB4.out hb); clear hI hb)
      | (go_at_call 30;refine (HWE.out _ HB5.out).mono ?_;rintro e w6 ⟨rfl,hd⟩;obtain ⟨m6,hm6⟩ := hd.out;have hb6 : Below w5.heap.size w5 w6 := (by rw [hm6];exact pw_below_drewN (Below.refl _ _) m6);have HI6 := Aside0.mk (HI5.out.below hb6);have HB6 := Aside0.mk (below_step HB5.out hb6);clear hd hm6 hb6)
      | (go_at_call 26; refine (HLE.out _ g HI6.out).mono ?_; rintro e w7 ⟨rfl, rfl⟩)
      | (go_at_call 27; refine (table_Blocks.calls _ g t flt bl HI6.out).mono ?_; rintro e w8 ⟨rfl, rfl⟩)
      | (go_at_call 31;refine (HALL.out _ g HI6.out).mono ?_;rintro e w9 ⟨A3,c3,rfl,hC,hc,hb⟩;have HI9 := Aside0.mk (HI6.out.below hb);have HB9 := Aside0.mk (below_step HB6.out hb);have HC9 := Aside0.mk (And.intro hC hc);clear hC hc hb)
      | (go_at_call 15;refine (HEQ.out _ A3 c3 HB9.out HC9.out.1 HC9.out.2).mono ?_;rintro e w10 ⟨rfl,hb⟩;have HI10 := Aside0.mk (HI9.out.below hb);have HB10 := Aside0.mk (below_step HB9.out hb);clear hb))
    go_loopg [14] n1 (fun kx s14 wr => ∃ i : Nat, s14 = .int .i64 i ∧ i ≤ n1 ∧ n1 - i ≤ kx ∧ Aside0 (Below w10.heap.size w10 wr))
    case atStart => exact ⟨0, rfl, Nat.zero_le _, by omega, ⟨Below.refl _ _⟩⟩
    case round =>
      obtain ⟨i, rfl, hie, hik, HL⟩ := hrel
      have HBW := Aside0.mk (below_step HB10.out HL.out)
      have HIW := Aside0.mk (HI10.out.below HL.out)
      by_cases hi : i < n1
      · cases gk with
        | zero => omega
        | succ k1 =>
        have hit : i < t.length := by have := hn1.out; omega
        have hxm : t[i] ∈ t := List.getElem_mem hit
        have hx : rd_T28 t (i : Int) = t[i] := rd_T28_nat t i hit
        obtain ⟨ad, rfl, g0, g1, _, _, _⟩ := at_T28 (HCT.out wr HBW.out) (i : Int) (by omega) (by omega)
        have GA : Aside0 (∀ w',Below wr.heap.size wr w' → w'.cell? (ad.add (i * 5)) = some (.string (t[i]).f0) ∧ w'.cell? ⟨(ad.add (i * 5)).block,(ad.add (i * 5)).off + 1,none⟩ = some (.int .i64 (t[i]).f1)) := ⟨fun w' h => by
          obtain ⟨ad2, e2, h0, h1, _, _, _⟩ := at_T28 (HCT.out w' (below_step HBW.out h)) (i : Int) (by omega) (by omega)
          injection e2 with e2
          subst e2
          rw [hx] at h0 h1
          rw [Int.toNat_natCast] at h0
          simp only [Int.toNat_natCast] at h1
          exact ⟨h0, h1⟩⟩
        have hxo := HO.out _ hxm
        have hf0 : (t[i]).f0.size ≤ maxLen := by rw [maxLen_eq]; have := hxo.2.2.1; omega
        have hf1 : 1 ≤ (t[i]).f1 ∧ (t[i]).f1 ≤ 1125899906842624 := hxo.1
        clear g0 g1 hx hxm hxo
        generalize t[i] = x at *
        have hf11 := hf1.1
        have hf12 := hf1.2
        clear hf1
        have HF0 := Aside0.mk hf0
        clear hf0
        have p1 : ((i : Int) < (n1 : Int)) = True := eq_true (by omega)
        have p2 : ((0 : Int) ≤ (i : Int)) = True := eq_true (by omega)
        have p3 : (i < n1) = True := eq_true hi
        go_wp2_with (fail)
        go_cut [131] (fun s131 wd => s131 = .bool false ∧ Aside0 (Below wr.heap.size wr wd))
        case first =>
          refine quiet_lit (C := fun w' => Below wr.heap.size wr w') (by kernel_rfl) (by kernel_rfl) (below_drew1 (Below.refl _ _)) ?_
          repeat (first | go_big_quiet_skip | (go_big_quiet_want;go_big_quiet_op;go_big_quiet_on) | (refine wpQuiet_step (fun K hK => ?_);go_simp;refine ⟨_,fun w' hw' => rfl,hK _ ?_⟩;clear hK K))
          refine wpQuiet_step (fun K hK => ?_)
          go_simp
          refine ⟨.string x.f0, fun w' hw' => ?_, hK _ ?_⟩
          · have h0 := (GA.out w' hw').1
            go_simp
          clear hK K
          repeat (first | go_big_quiet_skip | (go_big_quiet_want;go_big_quiet_op;go_big_quiet_on) | (refine wpQuiet_step (fun K hK => ?_);go_simp;refine ⟨_,fun w' hw' => rfl,hK _ ?_⟩;clear hK K))
          refine wpQuiet_step (fun K hK => ?_)
          go_simp
          refine ⟨.int .i64 x.f1, fun w' hw' => ?_, hK _ ?_⟩
          · have h0 := (GA.out w' hw').2
            go_simp
          clear hK K
          repeat (first | go_big_quiet_skip | (go_big_quiet_want;go_big_quiet_op;go_big_quiet_on) | (refine wpQuiet_step (fun K hK => ?_);go_simp;refine ⟨_,fun w' hw' => rfl,hK _ ?_⟩;clear hK K))
          refine wpQuiet_step (fun K hK => ?_)
          go_simp
          refine ⟨.bool true, fun w' hw' => ?_, hK _ ?_⟩
          · exact (HGE.out w' g x.f0 x.f1 (below_step HBW.out hw') (HIW.out.below hw') HF0.out).mono (fun e w'' hh => ⟨hh.1, below_step hw' hh.2⟩)
          clear hK K
          repeat (first | go_big_quiet_skip | (go_big_quiet_want;go_big_quiet_op;go_big_quiet_on) | (refine wpQuiet_step (fun K hK => ?_);go_simp;refine ⟨_,fun w' hw' => rfl,hK _ ?_⟩;clear hK K))
          refine wpQuiet_step (fun K hK => ?_)
          go_simp
          refine ⟨.string x.f0, fun w' hw' => ?_, hK _ ?_⟩
          · have h0 := (GA.out w' hw').1
            go_simp
          clear hK K
          repeat (first | go_big_quiet_skip | (go_big_quiet_want;go_big_quiet_op;go_big_quiet_on) | (refine wpQuiet_step (fun K hK => ?_);go_simp;refine ⟨_,fun w' hw' => rfl,hK _ ?_⟩;clear hK K))
          refine wpQuiet_step (fun K hK => ?_)
          go_simp
          refine ⟨.int .i64 x.f1, fun w' hw' => ?_, hK _ ?_⟩
          · have h0 := (GA.out w' hw').2
            go_simp
          clear hK K
          repeat (first | go_big_quiet_skip | (go_big_quiet_want;go_big_quiet_op;go_big_quiet_on) | (refine wpQuiet_step (fun K hK => ?_);go_simp;refine ⟨_,fun w' hw' => rfl,hK _ ?_⟩;clear hK K))
          refine wpQuiet_step (fun K hK => ?_)
          go_simp
          refine ⟨.bool true, fun w' hw' => ?_, hK _ ?_⟩
          · exact (HGE.out w' g x.f0 (IntKind.i64.wrap (x.f1 - 1)) (below_step HBW.out hw') (HIW.out.below hw') HF0.out).mono (fun e w'' hh => ⟨hh.1, below_step hw' hh.2⟩)
          clear hK K
          repeat (first | go_big_quiet_skip | (go_big_quiet_want;go_big_quiet_op;go_big_quiet_on) | (refine wpQuiet_step (fun K hK => ?_);go_simp;refine ⟨_,fun w' hw' => rfl,hK _ ?_⟩;clear hK K))
          refine wpQuiet_step (fun K hK => ?_)
          go_simp
          refine ⟨.string x.f0, fun w' hw' => ?_, hK _ ?_⟩
          · have h0 := (GA.out w' hw').1
            go_simp
          clear hK K
          repeat (first | go_big_quiet_skip | (go_big_quiet_want;go_big_quiet_op;go_big_quiet_on) | (refine wpQuiet_step (fun K hK => ?_);go_simp;refine ⟨_,fun w' hw' => rfl,hK _ ?_⟩;clear hK K))
          refine wpQuiet_step (fun K hK => ?_)
          go_simp
          refine ⟨.bool true, fun w' hw' => ?_, hK _ ?_⟩
          · exact (HFR.out w' g x.f0 (below_step HBW.out hw') (HIW.out.below hw')).mono (fun e w'' hh => ⟨hh.1, below_step hw' hh.2⟩)
          clear hK K
          repeat (first | go_big_quiet_skip | (go_big_quiet_want;go_big_quiet_op;go_big_quiet_on) | (refine wpQuiet_step (fun K hK => ?_);go_simp;refine ⟨_,fun w' hw' => rfl,hK _ ?_⟩;clear hK K))
          refine wpQuiet_nil ?_
          intro wz hwz
          go_wp2_with (fail)
          go_meet
          case rel => exact ⟨rfl, ⟨hwz⟩⟩
        case rest =>
          obtain ⟨rfl, HBd⟩ := hcut
          go_wp2_with (fail)
          go_roundg k1
          case measure => omega
          case rel => exact ⟨i + 1, by go_num, by omega, by omega, ⟨below_step HL.out HBd.out⟩⟩
      · have hie2 : i = n1 := by omega
        subst hie2
        have HGL := Aside0.mk (HGE.out wr g a1 a2 HBW.out HIW.out HM1.out)
        go_wp2_with (first
          | (go_at_call 32;refine HGL.out.mono ?_;rintro e w11 ⟨rfl,hb⟩;have HF11 := Aside0.mk (HFR.out w11 g a1 (below_step HBW.out hb) (HIW.out.below hb));have HB11 := Aside0.mk (below_step HBW.out hb);clear hb)
          | (go_at_call 33; refine HF11.out.mono ?_; rintro e w12 ⟨rfl, hb⟩; have HB12 := Aside0.mk (below_step HB11.out hb); clear hb))
        go_ret
        exact ⟨rfl, below_step HB3.out HB12.out⟩
end Go.Proofs.Ytenmljkddhonmaa.MTbl

/- Arguments that are read as data, opened as values of a kind: whole numbers, texts, slices of what can be opened. -/
namespace Go.Proofs.Ytenmljkddhonmaa.QTbl
open Go.RowKit Go.Proofs.Ytenmljkddhonmaa.MTbl Go.Proofs.YtenmljkddhonmaaW.PrintWords Go.Proofs.YtenmljkddhonmaaW.PrintLast Go.Proofs.YtenmljkddhonmaaW.PrintMore
set_option linter.unusedVariables false
set_option linter.unusedSimpArgs false
open Go.ChangeShapes Go.WideShapes Go.Deep
/-- What reads as data of a type is of a kind, and of a kind of values. -/
def Opens {α : Type} (P : Program) (t : TypeId) (d : Kd α) (G : α → Prop) : Prop :=
  ∀ {H : Type} (enc : TypeId × Value → H) (w : World) (n : Nat) (cs : List Value) (y : DataW H × List MemPlace), DataW.trod enc P w 0 (fun _ => true) true n t cs = some y → ∃ x, d.K w x cs ∧ G x
theorem Opens.int {P : Program} {t : TypeId} {k : IntKind} (ht : P.underlying t = some (.int k)) : Opens P t (Kd.int k) (fun x => (Lit.int k x).wf = true) := by
  intro H enc w n cs y h
  obtain ⟨x, rfl, _, hw⟩ := DataW.trod_int ht h
  exact ⟨x, rfl, hw⟩
theorem Opens.bool {P : Program} {t : TypeId} (ht : P.underlying t = some .bool) : Opens P t Kd.bool (fun _ => True) := by
  intro H enc w n cs y h
  obtain ⟨x, rfl, _⟩ := DataW.trod_bool ht h
  exact ⟨x, rfl, trivial⟩
theorem Opens.str {P : Program} {t : TypeId} (ht : P.underlying t = some .string) : Opens P t Kd.string (fun s => s.size ≤ maxLen) := by
  intro H enc w n cs y h
  obtain ⟨x, rfl, _, hw⟩ := DataW.trod_string ht h
  exact ⟨x, rfl, hw⟩
theorem Opens.slice {α : Type} {P : Program} {t e : TypeId} {d : Kd α} {G : α → Prop} (ht : P.underlying t = some (.slice e)) (hc : P.cellsOf e = d.sz) (he : Opens P e d G) :
    Opens P t (Kd.slice e d) (fun xs => xs.length ≤ maxLen ∧ ∀ x ∈ xs, G x) := by
  intro H enc w n cs y h
  rcases open_slice ht h with ⟨rfl, _⟩ | ⟨a, len, cap, m, n', D, Pl, rfl, _, hl, hm, hmm, _, hi⟩
  · exact ⟨[], ⟨none, 0, rfl, Nat.le_refl _, ⟨rfl, by simp, fun h => absurd h (Nat.lt_irrefl 0)⟩⟩, Nat.zero_le _, fun x hx => by cases hx⟩
  · have hmc : m = cap := by simpa using hmm
    have hch : ∀ i, i < len → ∃ x : α, G x ∧ ∃ c, c.length = d.sz ∧ d.K w x c ∧ ∀ j u, c[j]? = some u → w.cell? (a.add (i * d.sz + j)) = some u := by
      intro i hil
      obtain ⟨cs', hcs, htr⟩ := hi i (by omega)
      obtain ⟨x, hK, hG⟩ := he enc w n' cs' _ htr
      refine ⟨x, hG, cs', d.K_len hK, hK, fun j u hu => ?_⟩
      obtain ⟨_, hcl, hat⟩ := World.cells?_some hcs
      have hj := (List.getElem?_eq_some_iff.1 hu).1
      have := hat j (by have := d.K_len hK; omega)
      rw [← hc, ← Go.Deep.add_add, this, hu]
    have hmax : cap ≤ 9223372036854775807 := hm
    refine ⟨List.ofFn (fun i : Fin len => Classical.choose (hch i i.2)), ⟨some a, cap, by simp, by simpa using hl, by simp, by simp; omega, fun _ => ⟨a, rfl, fun j p hj => ?_⟩⟩, by simp; omega, fun x hx => ?_⟩
    · obtain ⟨hjl, hp⟩ := List.getElem?_eq_some_iff.1 hj
      rw [List.getElem_ofFn] at hp
      subst hp
      obtain ⟨_, c, h1, h2, h3⟩ := Classical.choose_spec (hch j (by simpa using hjl))
      exact ⟨c, h1, h2, h3⟩
    · rw [List.mem_ofFn] at hx
      obtain ⟨i, rfl⟩ := hx
      exact (Classical.choose_spec (hch i i.2)).1
/-- A parameter that is a slice. -/
theorem param_slice {α : Type} {P : Program} {t e : TypeId} {d : Kd α} {G : List α → Prop} (ho : Opens P t (Kd.slice e d) G) {H : Type} {enc : TypeId × Value → H} {w : World} {a : Option Addr} {len cap : Nat} {D : DataW H} {p : List MemPlace}
    (h : DataW.Trod enc P w 0 (fun _ => true) true t (.slice a len cap) D p) : ∃ l, len = l.length ∧ len ≤ cap ∧ d.C w a len l ∧ G l := by
  obtain ⟨n, hf⟩ := h
  obtain ⟨l, ⟨A, c, e1, hl, hC⟩, hG⟩ := ho enc w n _ _ hf
  have e2 : [Value.slice a len cap] = [.slice A l.length c] := e1
  injection e2 with e3
  injection e3 with h1 h2 h3
  subst h1; subst h3
  exact ⟨l, h2, by omega, by rw [h2]; exact hC, hG⟩
end Go.Proofs.Ytenmljkddhonmaa.QTbl
