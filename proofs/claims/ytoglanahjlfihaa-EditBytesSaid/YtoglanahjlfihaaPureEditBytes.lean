/- It is proved that the law EditBytes of package incipitlaw19 returns true at every input: edits go to bytes and back;what may not be is refused;other bytes are an edit's,whose they are,or none's. No conditions. -/
import Derived.Lib.Bytealg
import Derived.Lib.Strings
import Derived.Test.YtoglanahjlfihaaMEdtx0
import Derived.Test.YtoglanahjlfihaaMEdtx11
import Derived.Test.YtoglanahjlfihaaMEdtx2
import Derived.Test.YtoglanahjlfihaaMEdtx3
import Derived.Test.YtoglanahjlfihaaMEdtx4
import Derived.Test.YtoglanahjlfihaaMEdtx5
import Derived.Test.YtoglanahjlfihaaMEdtx6
import Derived.Test.YtoglanahjlfihaaMEdtx7
import Derived.Test.YtoglanahjlfihaaQEdtEditRT
import Derived.Test.YtoglanahjlfihaaQEdtXorB
import Derived.Test.YtoglanahjlfihaaQEdtS43
namespace Go.Proofs.Ytoglanahjlfihaa.Pure
open Go.RowKit Go.Proofs.Ytoglanahjlfihaa.MEdt Go.Proofs.Ytoglanahjlfihaa.QEdt Go.Proofs.YtoglanahjlfihaaW.PrintWords Go.Proofs.YtoglanahjlfihaaW.PrintLast Go.Proofs.YtoglanahjlfihaaW.PrintMore
set_option linter.unusedVariables false
set_option linter.unusedSimpArgs false
theorem bBegun_ev : Ev (fun k => incipitlaw19_begun.f k) true := Ev.of incipitlaw19_begun.mono (k := 30) (by decide +kernel)
theorem numF_any {l : List Int} (hb : Bytes l) (bad : Bool) {most : Int} (hm : 0 ≤ most) (hM : most ≤ 1125899906842624) :
  ∃ v l' b',Ev (fun k => numF k l bad most) (v,l',b') ∧ 0 ≤ v ∧ v ≤ most ∧ Bytes l' ∧ l'.length ≤ l.length := by
 obtain ⟨h1,h2,h3,h4⟩ := get_bound hb
 have e2 : IntKind.u64.wrap most = most := u64_id (by omega) (by omega)
 have hs : ∃ q,stepF l bad (if (get l).1 > IntKind.u64.wrap most then 0 else (get l).2) = some q ∧ Bytes q.1 ∧ q.1.length ≤ l.length ∧ (q.2 = false → (get l).1 ≤ most) := by
  rw [e2]
  unfold stepF
  cases bad with
  | true => exact ⟨([],true),by rw [if_pos rfl],(fun c hc => by cases hc),by simp,fun h => by cases h⟩
  | false =>
   rw [if_neg (by simp)]
   by_cases c1 : (get l).1 > most
   ·rw [if_pos c1];exact ⟨([],true),by rw [if_pos rfl],(fun c hc => by cases hc),by simp,fun h => by cases h⟩
   ·rw [if_neg c1]
    by_cases c2 : (get l).2 = 0
    ·rw [if_pos c2];exact ⟨([],true),rfl,(fun c hc => by cases hc),by simp,fun h => by cases h⟩
    ·rw [if_neg c2,if_pos ⟨h3,h4⟩]
     exact ⟨_,rfl,hb.drop _,by simp only [List.length_drop];omega,fun _ => by omega⟩
 obtain ⟨⟨l',b'⟩,hq,q1,q2,q3⟩ := hs
 refine ⟨if b' = true then 0 else wrap64 (get l).1,l',b',?_,?_,?_,q1,q2⟩
 ·unfold numF
  refine Ev.bind (Get_ev hb) (Ev.same ?_)
  rw [hq,Option.bind_some]
 ·cases b' with
  | true => rw [if_pos rfl];omega
  | false => rw [if_neg (by simp),wrap64_id (by omega) (by have := q3 rfl;omega)];exact h1
 ·cases b' with
  | true => rw [if_pos rfl];exact hm
  | false => rw [if_neg (by simp),wrap64_id (by omega) (by have := q3 rfl;omega)];exact q3 rfl
theorem getText_le {l : List Int} (hb : Bytes l) : 0 ≤ (getText l).2 ∧ (getText l).2 ≤ l.length := by
 obtain ⟨h1,h2,h3,h4⟩ := get_bound hb
 unfold getText
 by_cases c1 : (get l).2 = 0
 ·rw [if_pos c1];simp
 ·rw [if_neg c1]
  by_cases c2 : (get l).1 > (l.length : Int) - (get l).2
  ·rw [if_pos c2];simp
  ·rw [if_neg c2];simp only;omega
theorem textF_any {l : List Int} (hb : Bytes l) (hl : l.length ≤ 1000000000) (bad : Bool) : ∃ s l' b',Ev (fun k => textF k l bad) (s,l',b') ∧ Bytes l' ∧ l'.length ≤ l.length := by
 obtain ⟨h3,h4⟩ := getText_le hb
 have hs : ∃ q,stepF l bad (getText l).2 = some q ∧ Bytes q.1 ∧ q.1.length ≤ l.length := by
  unfold stepF
  cases bad with
  | true => exact ⟨([],true),by rw [if_pos rfl],(fun c hc => by cases hc),by simp⟩
  | false =>
   rw [if_neg (by simp)]
   by_cases c2 : (getText l).2 = 0
   ·rw [if_pos c2];exact ⟨([],true),rfl,(fun c hc => by cases hc),by simp⟩
   ·rw [if_neg c2,if_pos ⟨h3,h4⟩]
    exact ⟨_,rfl,hb.drop _,by simp only [List.length_drop];omega⟩
 obtain ⟨⟨l',b'⟩,hq,q1,q2⟩ := hs
 refine ⟨if b' = true then ⟨#[]⟩ else (getText l).1,l',b',?_,q1,q2⟩
 unfold textF
 refine Ev.bind (GetText_ev hb (by omega)) (Ev.same ?_)
 rw [hq,Option.bind_some]
theorem decFiles_any (m : Nat) : ∀ (l : List Int) (bad : Bool) (acc : List S55),Bytes l → l.length ≤ 1000000000 → acc.length + m < 1000000 →
  ∃ fs l' b',Ev (fun k => decFiles k m l bad acc) (fs,l',b') ∧ Bytes l' ∧ l'.length ≤ l.length ∧ fs.length = acc.length + m := by
 induction m with
 | zero => intro l bad acc hb hl ha;exact ⟨acc,l,bad,by simp only [decFiles];exact Ev.now _,hb,Nat.le_refl _,rfl⟩
 | succ m ih =>
  intro l bad acc hb hl ha
  obtain ⟨v1,l1,b1,e1,_,_,y1,z1⟩ := numF_any hb bad (most := 1125899906842624) (by omega) (by omega)
  obtain ⟨v2,l2,b2,e2,_,_,y2,z2⟩ := numF_any y1 b1 (most := 5) (by omega) (by omega)
  obtain ⟨v3,l3,b3,e3,_,_,y3,z3⟩ := numF_any y2 b2 (most := 16777216) (by omega) (by omega)
  obtain ⟨s4,l4,b4,e4,y4,z4⟩ := textF_any y3 (by omega) b3
  obtain ⟨s5,l5,b5,e5,y5,z5⟩ := textF_any y4 (by omega) b4
  obtain ⟨fs,l',b',e6,y6,z6,x6⟩ := ih l5 b5 (acc ++ [⟨v1,v2,v3,s4,s5⟩]) y5 (by omega) (by rw [List.length_append,List.length_singleton];omega)
  refine ⟨fs,l',b',?_,y6,by omega,by rw [x6,List.length_append,List.length_singleton];omega⟩
  simp only [decFiles]
  exact Ev.bind e1 (Ev.bind e2 (Ev.bind e3 (Ev.bind e4 (Ev.bind e5 (Ev.ite_pos (by omega) e6)))))
theorem decDels_any (m : Nat) : ∀ (l : List Int) (bad : Bool) (acc : List Int),Bytes l → l.length ≤ 1000000000 → acc.length + m < 1000000 →
  ∃ ds l' b',Ev (fun k => decDels k m l bad acc) (ds,l',b') ∧ Bytes l' ∧ l'.length ≤ l.length ∧ ds.length = acc.length + m := by
 induction m with
 | zero => intro l bad acc hb hl ha;exact ⟨acc,l,bad,by simp only [decDels];exact Ev.now _,hb,Nat.le_refl _,rfl⟩
 | succ m ih =>
  intro l bad acc hb hl ha
  obtain ⟨v1,l1,b1,e1,_,_,y1,z1⟩ := numF_any hb bad (most := 1125899906842624) (by omega) (by omega)
  obtain ⟨ds,l',b',e6,y6,z6,x6⟩ := ih l1 b1 (acc ++ [v1]) y1 (by omega) (by rw [List.length_append,List.length_singleton];omega)
  refine ⟨ds,l',b',?_,y6,by omega,by rw [x6,List.length_append,List.length_singleton];omega⟩
  simp only [decDels]
  exact Ev.bind e1 (Ev.ite_pos (by omega) e6)
theorem strOf_inj : ∀ {a b : List Int},Bytes a → Bytes b → (strOfNums a).toList = (strOfNums b).toList → a = b := by
 intro a b ha hb h
 rw [Lib.toList_data,Lib.toList_data] at h
 unfold strOfNums at h
 simp only at h
 induction a generalizing b with
 | nil => cases b with
  | nil => rfl
  | cons x t => simp at h
 | cons x t ih => cases b with
  | nil => simp at h
  | cons y u =>
   simp only [List.map_cons,List.cons.injEq] at h
   have hx := ha x (List.mem_cons_self ..)
   have hy := hb y (List.mem_cons_self ..)
   have e := congrArg UInt8.toNat h.1
   rw [UInt8.toNat_ofNat',UInt8.toNat_ofNat'] at e
   have e1 : x = y := by omega
   rw [e1,ih (fun c hc => ha c (List.mem_cons_of_mem _ hc)) (fun c hc => hb c (List.mem_cons_of_mem _ hc)) h.2]
theorem encE_bytes {a0 a1 a2 : Int} {fs : List S55} {ds : List Int} (h : okB a0 a1 a2 fs ds = true) : Bytes (encE a0 a1 a2 fs ds) := by
 obtain ⟨h0,h1,h2,h3,h4⟩ := okB_heads h
 have n1 : ∀ n ∈ [a0,a1,a2,(fs.length : Int)],okN n := by
  intro n hn
  simp only [List.mem_cons,List.not_mem_nil,or_false] at hn
  rcases hn with rfl | rfl | rfl | rfl
  ·exact h0
  ·exact h1
  ·exact h2
  ·exact ⟨by omega,by omega⟩
 have n2 : ∀ n ∈ [(ds.length : Int)],okN n := by
  intro n hn
  simp only [List.mem_cons,List.not_mem_nil,or_false] at hn
  subst hn
  exact ⟨by omega,by omega⟩
 exact (encN_bytes _ n1).append ((encFs_bytes fs (okB_files h)).append ((encN_bytes _ n2).append (encN_bytes _ (okB_dels h))))
theorem encE_len {a0 a1 a2 : Int} {fs : List S55} {ds : List Int} (h : okB a0 a1 a2 fs ds = true) : (encE a0 a1 a2 fs ds).length ≤ 100000000 := by
 obtain ⟨h0,h1,h2,h3,h4⟩ := okB_heads h
 have n1 : ∀ n ∈ [a0,a1,a2,(fs.length : Int)],okN n := by
  intro n hn
  simp only [List.mem_cons,List.not_mem_nil,or_false] at hn
  rcases hn with rfl | rfl | rfl | rfl
  ·exact h0
  ·exact h1
  ·exact h2
  ·exact ⟨by omega,by omega⟩
 have n2 : ∀ n ∈ [(ds.length : Int)],okN n := by
  intro n hn
  simp only [List.mem_cons,List.not_mem_nil,or_false] at hn
  subst hn
  exact ⟨by omega,by omega⟩
 have l1 := encN_len _ n1
 have l2 := encN_len _ n2
 have l3 := encFs_len _ (okB_files h)
 have l4 := encN_len _ (okB_dels h)
 simp only [List.length_cons,List.length_nil] at l1 l2
 unfold encE
 simp only [List.length_append]
 omega
theorem Decode_any {l : List Int} (hb : Bytes l) (hl : l.length ≤ 1000000000) :
  Ev (fun k => edit_Decode.f k l) (0,0,0,[],[],8) ∨ ∃ a0 a1 a2 fs ds,okB a0 a1 a2 fs ds = true ∧ encE a0 a1 a2 fs ds = l ∧ Ev (fun k => edit_Decode.f k l) (a0,a1,a2,fs,ds,0) := by
 obtain ⟨v1,l1,b1,e1,_,_,y1,z1⟩ := numF_any hb false (most := 1125899906842624) (by omega) (by omega)
 obtain ⟨v2,l2,b2,e2,_,_,y2,z2⟩ := numF_any y1 b1 (most := 1125899906842624) (by omega) (by omega)
 obtain ⟨v3,l3,b3,e3,_,_,y3,z3⟩ := numF_any y2 b2 (most := 1125899906842624) (by omega) (by omega)
 obtain ⟨v4,l4,b4,e4,p4,q4,y4,z4⟩ := numF_any y3 b3 (most := 200) (by omega) (by omega)
 obtain ⟨fs,l5,b5,e5,y5,z5,x5⟩ := decFiles_any v4.toNat l4 b4 [] y4 (by omega) (by simp only [List.length_nil];omega)
 obtain ⟨v6,l6,b6,e6,p6,q6,y6,z6⟩ := numF_any y5 b5 (most := 200) (by omega) (by omega)
 obtain ⟨ds,l7,b7,e7,y7,z7,x7⟩ := decDels_any v6.toNat l6 b6 [] y6 (by omega) (by simp only [List.length_nil];omega)
 simp only [List.length_nil] at x5 x7
 have go : ∀ {r},Ev (fun k => if (!b7 && (l7.length : Int) == 0) = true then
   (edit_Encode.f k v1 v2 v3 fs ds).bind fun c => if c.2 = 0 then (bytes_Equal.f c.1 l).bind fun t => if t = true then some (v1,v2,v3,fs,ds,0) else some (0,0,0,[],[],8) else some (0,0,0,[],[],8)
  else some (0,0,0,[],[],8)) r → Ev (fun k => edit_Decode.f k l) r := by
  intro r h
  unfold edit_Decode.f
  exact Ev.bind e1 (Ev.bind e2 (Ev.bind e3 (Ev.bind e4 (Ev.bind e5 (Ev.bind e6 (Ev.bind e7 h))))))
 by_cases c1 : (!b7 && (l7.length : Int) == 0) = true
 ·cases ho : okB v1 v2 v3 fs ds with
  | false =>
   left
   exact go (Ev.ite_pos c1 (Ev.bind (Encode_no _ _ _ _ _ (by omega) (by omega) ho) (Ev.ite_neg (by simp) (Ev.now _))))
  | true =>
   by_cases c2 : (strOfNums (encE v1 v2 v3 fs ds)).toList = (strOfNums l).toList
   ·right
    refine ⟨v1,v2,v3,fs,ds,ho,strOf_inj (encE_bytes ho) hb c2,go (Ev.ite_pos c1 (Ev.bind (Encode_ev _ _ _ _ _ ho) (Ev.ite_pos rfl ?_)))⟩
    refine Ev.same ?_
    simp [bytes_Equal.f,c2]
   ·left
    refine go (Ev.ite_pos c1 (Ev.bind (Encode_ev _ _ _ _ _ ho) (Ev.ite_pos rfl ?_)))
    refine Ev.same ?_
    simp [bytes_Equal.f,c2]
 ·left
  exact go (Ev.ite_neg c1 (Ev.now _))
/-- What Cut leaves: few, short ones. -/
def cutT (s : ByteArray) : ByteArray := if (s.size : Int) > 20 then s.extract 0 20 else s
theorem cut1_ev (s : ByteArray) : incipitlaw1_Cut.f s 20 = some (cutT s) := by
 unfold incipitlaw1_Cut.f cutT
 by_cases c : (s.size : Int) > 20
 ·rw [if_pos c,if_pos c,if_pos (by omega),if_pos (by omega)];rfl
 ·rw [if_neg c,if_neg c]
def cutF (f : S55) : S55 := ⟨f.f0,f.f1,f.f2,cutT f.f3,cutT f.f4⟩
theorem cut_l0 (a0 a1 a2 : Int) (fs : List S55) (ds : List Int) (hl : fs.length ≤ 12) (d : Nat) : ∀ (i : Nat) (acc : List S55),fs.length - i = d → acc.length ≤ i → i ≤ 12 →
  Ev (fun k => incipitlaw19_Cut.l0 k acc (i : Int) a0 a1 a2 fs ds) (a0,a1,a2,acc ++ (fs.drop i).map cutF,ds.take 12) := by
 induction d with
 | zero =>
  intro i acc hd ha hi
  refine Ev.succ ?_
  simp only [incipitlaw19_Cut.l0]
  rw [List.drop_eq_nil_of_le (by omega),List.map_nil,List.append_nil]
  refine Ev.ite_neg (by omega) ?_
  by_cases c : (ds.length : Int) > 12
  ·exact Ev.ite_pos c (Ev.ite_pos (by omega) (Ev.now _))
  ·rw [List.take_of_length_le (by omega)];exact Ev.ite_neg c (Ev.now _)
 | succ d ih =>
  intro i acc hd ha hi
  have hlt : i < fs.length := by omega
  have en : wrap64 ((i : Int) + 1) = ((i + 1 : Nat) : Int) := by rw [wrap64_id (by omega) (by omega)];omega
  refine Ev.succ ?_
  simp only [incipitlaw19_Cut.l0,en,rd55 fs i hlt,cut1_ev,Option.bind_some]
  refine Ev.ite_pos (by omega) (Ev.ite_pos (by omega) (Ev.ite_pos (by omega) ?_))
  have := ih (i + 1) (acc ++ [cutF fs[i]]) (by omega) (by rw [List.length_append,List.length_singleton];omega) (by omega)
  rw [List.append_assoc,List.singleton_append] at this
  rw [List.drop_eq_getElem_cons hlt,List.map_cons]
  exact this
theorem Cut_ev (a0 a1 a2 : Int) (fs : List S55) (ds : List Int) : ∃ fs' ds',Ev (fun k => incipitlaw19_Cut.f k a0 a1 a2 fs ds) (a0,a1,a2,fs',ds') ∧ fs'.length ≤ 12 ∧ ds'.length ≤ 12 := by
 have h : ∀ gs : List S55,gs.length ≤ 12 → Ev (fun k => incipitlaw19_Cut.j0 k a0 a1 a2 gs ds) (a0,a1,a2,gs.map cutF,ds.take 12) := by
  intro gs hg
  refine Ev.succ ?_
  simp only [incipitlaw19_Cut.j0]
  have := cut_l0 a0 a1 a2 gs ds hg gs.length 0 [] rfl (by simp) (by omega)
  rw [List.drop_zero,List.nil_append] at this
  exact this
 unfold incipitlaw19_Cut.f
 by_cases c : (fs.length : Int) > 12
 ·exact ⟨_,_,Ev.ite_pos c (Ev.ite_pos (by omega) (h (fs.take 12) (by rw [List.length_take];omega))),by rw [List.length_map,List.length_take];omega,by rw [List.length_take];omega⟩
 ·exact ⟨_,_,Ev.ite_neg c (h fs (by omega)),by rw [List.length_map];omega,by rw [List.length_take];omega⟩
theorem may_l1 (a0 a1 a2 : Int) (fs : List S55) (ds : List Int) (hl : ds.length < 1000000) (d : Nat) : ∀ i : Nat,ds.length - i = d → Ev (fun k => incipitref12_MayEdit.l1 k (i : Int) a0 a1 a2 fs ds) (inB 1 1125899906842624 (ds.drop i)) := by
 induction d with
 | zero =>
  intro i hd
  refine Ev.succ ?_
  simp only [incipitref12_MayEdit.l1]
  rw [List.drop_eq_nil_of_le (by omega)]
  exact Ev.ite_neg (by omega) (Ev.now _)
 | succ d ih =>
  intro i hd
  have hlt : i < ds.length := by omega
  have en : wrap64 ((i : Int) + 1) = ((i + 1 : Nat) : Int) := by rw [wrap64_id (by omega) (by omega)];omega
  refine Ev.succ ?_
  simp only [incipitref12_MayEdit.l1,en,rd_nat]
  rw [List.drop_eq_getElem_cons hlt,show ds.getD i 0 = ds[i] by rw [List.getD_eq_getElem?_getD,List.getElem?_eq_getElem hlt];rfl]
  refine Ev.ite_pos (by omega) (Ev.ite_pos (by omega) ?_)
  have e : inB 1 1125899906842624 (ds[i] :: ds.drop (i + 1)) = ((decide (1 ≤ ds[i]) && decide (ds[i] ≤ 1125899906842624)) && inB 1 1125899906842624 (ds.drop (i + 1))) := rfl
  rw [e]
  by_cases c1 : ds[i] < 1
  ·rw [decide_eq_false (show ¬ 1 ≤ ds[i] by omega)];exact Ev.ite_pos c1 (Ev.now _)
  ·refine Ev.ite_neg c1 ?_
   rw [decide_eq_true (show 1 ≤ ds[i] by omega)]
   by_cases c2 : ds[i] > 1125899906842624
   ·rw [decide_eq_false (show ¬ ds[i] ≤ 1125899906842624 by omega)];exact Ev.ite_pos c2 (Ev.now _)
   ·rw [decide_eq_true (show ds[i] ≤ 1125899906842624 by omega)]
    exact Ev.ite_neg c2 (ih (i + 1) (by omega))
theorem fileB_step {α : Type} (f : S55) {x : Nat → Option α} {r n : α} (hx : fileB f = true → Ev x r) (hn : fileB f = false → n = r) : Ev (fun k => if f.f0 < 1 then some n else (if f.f0 > 1125899906842624 then some n else (if f.f1 < 0 then some n else (if f.f1 ≥ 5 then some n else (if f.f2 < 0 then some n else (if f.f2 > 16777216 then some n else (if Op.bytesLess f.f4.toList f.f3.toList = true then some n else (if (f.f3.size : Int) > 13000 then some n else (if (f.f4.size : Int) > 13000 then some n else x k))))))))) r := by
 have e : fileB f = true ↔ (1 ≤ f.f0 ∧ f.f0 ≤ 1125899906842624) ∧ (0 ≤ f.f1 ∧ f.f1 ≤ 4) ∧ (0 ≤ f.f2 ∧ f.f2 ≤ 16777216) ∧ Op.bytesLess f.f4.toList f.f3.toList = false ∧ (f.f3.size : Int) ≤ 13000 ∧ (f.f4.size : Int) ≤ 13000 := by
  simp only [fileB,inB,List.all_cons,List.all_nil,Bool.and_true,Bool.and_eq_true,decide_eq_true_eq,Bool.not_eq_true']
 have no : ¬ fileB f = true → Ev (fun _ : Nat => some n) r := fun h => by rw [← hn (by simpa using h)];exact Ev.now _
 by_cases c0 : f.f0 < 1
 ·exact Ev.ite_pos c0 (no fun h => by have := e.1 h;omega)
 refine Ev.ite_neg c0 ?_
 by_cases c1 : f.f0 > 1125899906842624
 ·exact Ev.ite_pos c1 (no fun h => by have := e.1 h;omega)
 refine Ev.ite_neg c1 ?_
 by_cases c2 : f.f1 < 0
 ·exact Ev.ite_pos c2 (no fun h => by have := e.1 h;omega)
 refine Ev.ite_neg c2 ?_
 by_cases c3 : f.f1 ≥ 5
 ·exact Ev.ite_pos c3 (no fun h => by have := e.1 h;omega)
 refine Ev.ite_neg c3 ?_
 by_cases c4 : f.f2 < 0
 ·exact Ev.ite_pos c4 (no fun h => by have := e.1 h;omega)
 refine Ev.ite_neg c4 ?_
 by_cases c5 : f.f2 > 16777216
 ·exact Ev.ite_pos c5 (no fun h => by have := e.1 h;omega)
 refine Ev.ite_neg c5 ?_
 by_cases c6 : Op.bytesLess f.f4.toList f.f3.toList = true
 ·exact Ev.ite_pos c6 (no fun h => by have := (e.1 h).2.2.2.1;rw [c6] at this;cases this)
 refine Ev.ite_neg c6 ?_
 by_cases c7 : (f.f3.size : Int) > 13000
 ·exact Ev.ite_pos c7 (no fun h => by have := e.1 h;omega)
 refine Ev.ite_neg c7 ?_
 by_cases c8 : (f.f4.size : Int) > 13000
 ·exact Ev.ite_pos c8 (no fun h => by have := e.1 h;omega)
 exact Ev.ite_neg c8 (hx (e.2 ⟨by omega,by omega,by omega,by simpa using c6,by omega,by omega⟩))
theorem may_l0 (a0 a1 a2 : Int) (fs : List S55) (ds : List Int) (hl : ds.length < 1000000) (hf : fs.length < 1000000) (d : Nat) : ∀ i : Nat,fs.length - i = d → Ev (fun k => incipitref12_MayEdit.l0 k (i : Int) a0 a1 a2 fs ds) (inB 1 1125899906842624 ds && (fs.drop i).all fileB) := by
 induction d with
 | zero =>
  intro i hd
  refine Ev.succ ?_
  simp only [incipitref12_MayEdit.l0]
  rw [List.drop_eq_nil_of_le (by omega),List.all_nil,Bool.and_true]
  have := may_l1 a0 a1 a2 fs ds hl ds.length 0 rfl
  rw [List.drop_zero] at this
  exact Ev.ite_neg (by omega) this
 | succ d ih =>
  intro i hd
  have hlt : i < fs.length := by omega
  have en : wrap64 ((i : Int) + 1) = ((i + 1 : Nat) : Int) := by rw [wrap64_id (by omega) (by omega)];omega
  refine Ev.succ ?_
  simp only [incipitref12_MayEdit.l0,en,rd55 fs i hlt]
  rw [List.drop_eq_getElem_cons hlt,List.all_cons]
  refine Ev.ite_pos (by omega) (Ev.ite_pos (by omega) (fileB_step fs[i] (fun h => ?_) (fun h => ?_)))
  ·rw [h,Bool.true_and];exact ih (i + 1) (by omega)
  ·rw [h,Bool.false_and,Bool.and_false]
theorem MayEdit_ev (a0 a1 a2 : Int) (fs : List S55) (ds : List Int) (hf : fs.length ≤ 12) (hd : ds.length ≤ 12) : Ev (fun k => incipitref12_MayEdit.f k a0 a1 a2 fs ds) (okB a0 a1 a2 fs ds) := by
 have no : okB a0 a1 a2 fs ds = false → Ev (fun k => incipitref12_MayEdit.j0 k true a0 a1 a2 fs ds) (okB a0 a1 a2 fs ds) := by
  intro h
  rw [h]
  refine Ev.succ ?_
  simp only [incipitref12_MayEdit.j0]
  exact Ev.ite_pos trivial (Ev.now _)
 have e : okB a0 a1 a2 fs ds = true → (0 ≤ a0 ∧ a0 ≤ 1125899906842624) ∧ (0 ≤ a1 ∧ a1 ≤ 1125899906842624) ∧ (0 ≤ a2 ∧ a2 ≤ 1125899906842624) := by
  intro h
  obtain ⟨h0,h1,h2,_⟩ := okB_heads h
  exact ⟨h0,h1,h2⟩
 have no' : ¬ ((0 ≤ a0 ∧ a0 ≤ 1125899906842624) ∧ (0 ≤ a1 ∧ a1 ≤ 1125899906842624) ∧ (0 ≤ a2 ∧ a2 ≤ 1125899906842624)) → okB a0 a1 a2 fs ds = false := by
  intro h
  cases hb : okB a0 a1 a2 fs ds with
  | false => rfl
  | true => exact absurd (e hb) h
 unfold incipitref12_MayEdit.f
 by_cases c0 : a0 < 0
 ·exact Ev.ite_pos c0 (no (no' fun h => by omega))
 refine Ev.ite_neg c0 ?_
 by_cases c1 : a0 > 1125899906842624
 ·exact Ev.ite_pos c1 (no (no' fun h => by omega))
 refine Ev.ite_neg c1 ?_
 by_cases c2 : a1 < 0
 ·exact Ev.ite_pos c2 (no (no' fun h => by omega))
 refine Ev.ite_neg c2 ?_
 by_cases c3 : a1 > 1125899906842624
 ·exact Ev.ite_pos c3 (no (no' fun h => by omega))
 refine Ev.ite_neg c3 ?_
 by_cases c4 : a2 < 0
 ·exact Ev.ite_pos c4 (no (no' fun h => by omega))
 refine Ev.ite_neg c4 ?_
 by_cases c5 : a2 > 1125899906842624
 ·exact Ev.ite_pos c5 (no (no' fun h => by omega))
 refine Ev.ite_neg c5 (Ev.ite_neg (by omega) ?_)
 rw [decide_eq_false (show ¬ (ds.length : Int) > 200 by omega)]
 refine Ev.succ ?_
 simp only [incipitref12_MayEdit.j0]
 refine Ev.ite_neg (by simp) ?_
 have := may_l0 a0 a1 a2 fs ds (by omega) (by omega) fs.length 0 rfl
 rw [List.drop_zero] at this
 have e2 : okB a0 a1 a2 fs ds = (inB 1 1125899906842624 ds && fs.all fileB) := by
  unfold okB
  rw [decide_eq_true (show (fs.length : Int) ≤ 200 by omega),decide_eq_true (show (ds.length : Int) ≤ 200 by omega)]
  have : inB 0 1125899906842624 [a0,a1,a2] = true := by
   simp only [inB,List.all_cons,List.all_nil,Bool.and_true,Bool.and_eq_true,decide_eq_true_eq]
   omega
  rw [this]
  simp only [Bool.true_and]
 rw [e2]
 exact this
theorem S55_eq {a b : S55} (h0 : a.f0 = b.f0) (h1 : a.f1 = b.f1) (h2 : a.f2 = b.f2) (h3 : a.f3.toList = b.f3.toList) (h4 : a.f4.toList = b.f4.toList) : a = b := by
 have e : ∀ x y : ByteArray,x.toList = y.toList → x = y := by
  intro x y h
  rw [Lib.toList_data,Lib.toList_data] at h
  exact ByteArray.ext (Array.toList_inj.1 h)
 cases a;cases b
 simp only at h0 h1 h2 h3 h4
 rw [h0,h1,h2,e _ _ h3,e _ _ h4]
theorem eqF_l0 (fs gs : List S55) (hl : fs.length < 1000000) (he : fs.length = gs.length) (d : Nat) : ∀ i : Nat,fs.length - i = d → ∃ b,Ev (fun k => incipitref12_EqFiles.l0 k fs gs (i : Int)) b ∧ (b = true ↔ fs.drop i = gs.drop i) := by
 induction d with
 | zero =>
  intro i hd
  refine ⟨true,Ev.succ ?_,?_⟩
  ·simp only [incipitref12_EqFiles.l0]
   exact Ev.ite_neg (by omega) (Ev.now _)
  ·rw [List.drop_eq_nil_of_le (by omega),List.drop_eq_nil_of_le (by omega)];simp
 | succ d ih =>
  intro i hd
  have hlt : i < fs.length := by omega
  have hlg : i < gs.length := by omega
  have en : wrap64 ((i : Int) + 1) = ((i + 1 : Nat) : Int) := by rw [wrap64_id (by omega) (by omega)];omega
  obtain ⟨b,hb,hbe⟩ := ih (i + 1) (by omega)
  rw [List.drop_eq_getElem_cons hlt,List.drop_eq_getElem_cons hlg]
  have go : ∀ {r},Ev (fun k => (if fs[i].f0 = gs[i].f0 then (if fs[i].f1 = gs[i].f1 then (if fs[i].f2 = gs[i].f2 then (if fs[i].f3.toList = gs[i].f3.toList then (if fs[i].f4.toList = gs[i].f4.toList then (incipitref12_EqFiles.l0 k fs gs ((i + 1 : Nat) : Int)) else (some false)) else (some false)) else (some false)) else (some false)) else (some false))) r → Ev (fun k => incipitref12_EqFiles.l0 k fs gs (i : Int)) r := by
   intro r h
   refine Ev.succ ?_
   simp only [incipitref12_EqFiles.l0,en,rd55 fs i hlt,rd55 gs i hlg]
   exact Ev.ite_pos (by omega) (Ev.ite_pos (by omega) (Ev.ite_pos (by omega) h))
  have no : ¬ fs[i] = gs[i] → (false = true ↔ fs[i] :: fs.drop (i + 1) = gs[i] :: gs.drop (i + 1)) := by
   intro h
   constructor
   ·intro h;cases h
   ·intro h2;exact absurd (List.cons.inj h2).1 h
  by_cases c0 : fs[i].f0 = gs[i].f0
  ·by_cases c1 : fs[i].f1 = gs[i].f1
   ·by_cases c2 : fs[i].f2 = gs[i].f2
    ·by_cases c3 : fs[i].f3.toList = gs[i].f3.toList
     ·by_cases c4 : fs[i].f4.toList = gs[i].f4.toList
      ·refine ⟨b,go (Ev.ite_pos c0 (Ev.ite_pos c1 (Ev.ite_pos c2 (Ev.ite_pos c3 (Ev.ite_pos c4 hb))))),?_⟩
       rw [hbe,S55_eq c0 c1 c2 c3 c4]
       exact ⟨fun h => by rw [h],fun h => (List.cons.inj h).2⟩
      ·exact ⟨false,go (Ev.ite_pos c0 (Ev.ite_pos c1 (Ev.ite_pos c2 (Ev.ite_pos c3 (Ev.ite_neg c4 (Ev.now _)))))),no fun h => c4 (by rw [h])⟩
     ·exact ⟨false,go (Ev.ite_pos c0 (Ev.ite_pos c1 (Ev.ite_pos c2 (Ev.ite_neg c3 (Ev.now _))))),no fun h => c3 (by rw [h])⟩
    ·exact ⟨false,go (Ev.ite_pos c0 (Ev.ite_pos c1 (Ev.ite_neg c2 (Ev.now _)))),no fun h => c2 (by rw [h])⟩
   ·exact ⟨false,go (Ev.ite_pos c0 (Ev.ite_neg c1 (Ev.now _))),no fun h => c1 (by rw [h])⟩
  ·exact ⟨false,go (Ev.ite_neg c0 (Ev.now _)),no fun h => c0 (by rw [h])⟩
theorem eqFiles_ev (fs gs : List S55) (hl : fs.length < 1000000) : ∃ b,Ev (fun k => incipitref12_EqFiles.f k fs gs) b ∧ (b = true ↔ fs = gs) := by
 unfold incipitref12_EqFiles.f
 by_cases c : (fs.length : Int) = gs.length
 ·obtain ⟨b,hb,hbe⟩ := eqF_l0 fs gs hl (by omega) fs.length 0 rfl
  exact ⟨b,Ev.ite_pos c hb,by simpa using hbe⟩
 ·exact ⟨false,Ev.ite_neg c (Ev.now _),⟨(fun h => by cases h),fun h => absurd (by rw [h]) c⟩⟩
theorem eqE_l0 (a0 a1 a2 b0 b1 b2 : Int) (fs gs : List S55) (ds es : List Int) (hl : ds.length < 1000000) (he : ds.length = es.length) (d : Nat) : ∀ i : Nat,ds.length - i = d → ∃ b,Ev (fun k => incipitref12_EqEdit.l0 k (i : Int) a0 a1 a2 fs ds b0 b1 b2 gs es) b ∧ (b = true ↔ ds.drop i = es.drop i) := by
 induction d with
 | zero =>
  intro i hd
  refine ⟨true,Ev.succ ?_,?_⟩
  ·simp only [incipitref12_EqEdit.l0]
   exact Ev.ite_neg (by omega) (Ev.now _)
  ·rw [List.drop_eq_nil_of_le (by omega),List.drop_eq_nil_of_le (by omega)];simp
 | succ d ih =>
  intro i hd
  have hlt : i < ds.length := by omega
  have hlg : i < es.length := by omega
  have en : wrap64 ((i : Int) + 1) = ((i + 1 : Nat) : Int) := by rw [wrap64_id (by omega) (by omega)];omega
  obtain ⟨b,hb,hbe⟩ := ih (i + 1) (by omega)
  rw [List.drop_eq_getElem_cons hlt,List.drop_eq_getElem_cons hlg]
  have go : ∀ {r},Ev (fun k => (if ds[i] = es[i] then (incipitref12_EqEdit.l0 k ((i + 1 : Nat) : Int) a0 a1 a2 fs ds b0 b1 b2 gs es) else (some false))) r → Ev (fun k => incipitref12_EqEdit.l0 k (i : Int) a0 a1 a2 fs ds b0 b1 b2 gs es) r := by
   intro r h
   refine Ev.succ ?_
   simp only [incipitref12_EqEdit.l0,en,rd_nat]
   rw [show ds.getD i 0 = ds[i] by rw [List.getD_eq_getElem?_getD,List.getElem?_eq_getElem hlt];rfl,show es.getD i 0 = es[i] by rw [List.getD_eq_getElem?_getD,List.getElem?_eq_getElem hlg];rfl]
   exact Ev.ite_pos (by omega) (Ev.ite_pos (by omega) (Ev.ite_pos (by omega) h))
  by_cases c0 : ds[i] = es[i]
  ·exact ⟨b,go (Ev.ite_pos c0 hb),by rw [hbe,c0];exact ⟨fun h => by rw [h],fun h => (List.cons.inj h).2⟩⟩
  ·exact ⟨false,go (Ev.ite_neg c0 (Ev.now _)),⟨(fun h => by cases h),fun h => absurd (List.cons.inj h).1 c0⟩⟩
theorem EqEdit_ev (a0 a1 a2 b0 b1 b2 : Int) (fs gs : List S55) (ds es : List Int) (hf : fs.length < 1000000) (hl : ds.length < 1000000) :
  ∃ b,Ev (fun k => incipitref12_EqEdit.f k a0 a1 a2 fs ds b0 b1 b2 gs es) b ∧ (b = true ↔ (a0,a1,a2,fs,ds) = (b0,b1,b2,gs,es)) := by
 have no : Ev (fun k => incipitref12_EqEdit.j0 k true a0 a1 a2 fs ds b0 b1 b2 gs es) false := by
  refine Ev.succ ?_
  simp only [incipitref12_EqEdit.j0]
  exact Ev.ite_pos trivial (Ev.now _)
 unfold incipitref12_EqEdit.f
 by_cases c0 : a0 = b0
 ·by_cases c1 : a1 = b1
  ·by_cases c2 : a2 = b2
   ·obtain ⟨b,hb,hbe⟩ := eqFiles_ev fs gs hf
    cases b with
    | false => exact ⟨false,Ev.ite_pos c0 (Ev.ite_pos c1 (Ev.ite_pos c2 (Ev.bind hb (Ev.ite_neg (by simp) no)))),⟨(fun h => by cases h),fun h => by simp only [Prod.mk.injEq] at h;exact absurd (hbe.2 h.2.2.2.1) (by simp)⟩⟩
    | true =>
     have hfg := hbe.1 rfl
     by_cases c3 : ds.length = es.length
     ·obtain ⟨x,hx,hxe⟩ := eqE_l0 a0 a1 a2 b0 b1 b2 fs gs ds es hl c3 ds.length 0 rfl
      refine ⟨x,Ev.ite_pos c0 (Ev.ite_pos c1 (Ev.ite_pos c2 (Ev.bind hb (Ev.ite_pos rfl ?_)))),?_⟩
      ·refine Ev.succ ?_
       simp only [incipitref12_EqEdit.j0]
       exact Ev.ite_neg (by rw [c3];simp) hx
      ·rw [hxe,c0,c1,c2,hfg];simp
     ·refine ⟨false,Ev.ite_pos c0 (Ev.ite_pos c1 (Ev.ite_pos c2 (Ev.bind hb (Ev.ite_pos rfl ?_)))),⟨(fun h => by cases h),fun h => by simp only [Prod.mk.injEq] at h;exact absurd (by rw [h.2.2.2.2]) c3⟩⟩
      refine Ev.succ ?_
      simp only [incipitref12_EqEdit.j0]
      refine Ev.ite_pos ?_ (Ev.now _)
      rw [bne_iff_ne];omega
   ·exact ⟨false,Ev.ite_pos c0 (Ev.ite_pos c1 (Ev.ite_neg c2 no)),⟨(fun h => by cases h),fun h => by simp only [Prod.mk.injEq] at h;exact absurd h.2.2.1 c2⟩⟩
  ·exact ⟨false,Ev.ite_pos c0 (Ev.ite_neg c1 no),⟨(fun h => by cases h),fun h => by simp only [Prod.mk.injEq] at h;exact absurd h.2.1 c1⟩⟩
 ·exact ⟨false,Ev.ite_neg c0 no,⟨(fun h => by cases h),fun h => by simp only [Prod.mk.injEq] at h;exact absurd h.1 c0⟩⟩
theorem Ev.uniq {α : Type} {g : Nat → Option α} {a b : α} (h : Ev g a) (k : Ev g b) : a = b := by
 obtain ⟨n,hn⟩ := h
 obtain ⟨m,hm⟩ := k
 have h1 := hn (max n m) (by omega)
 have h2 := hm (max n m) (by omega)
 rw [h1] at h2
 exact Option.some.inj h2
theorem encE_inj {a0 a1 a2 b0 b1 b2 : Int} {fs gs : List S55} {ds es : List Int} (h : okB a0 a1 a2 fs ds = true) (k : okB b0 b1 b2 gs es = true) (e : encE a0 a1 a2 fs ds = encE b0 b1 b2 gs es) : (a0,a1,a2,fs,ds) = (b0,b1,b2,gs,es) := by
 have h1 := Decode_ev a0 a1 a2 fs ds h
 have h2 := Decode_ev b0 b1 b2 gs es k
 rw [e] at h1
 have := Ev.uniq h1 h2
 simp only [Prod.mk.injEq] at this ⊢
 exact ⟨this.1,this.2.1,this.2.2.1,this.2.2.2.1,this.2.2.2.2.1⟩
theorem bytes_j3 {l : List Int} (hb : Bytes l) (hl : l.length ≤ 1000000000) : Ev (fun k => incipitlaw19_EditBytes.j3 k l) true := by
 refine Ev.succ ?_
 simp only [incipitlaw19_EditBytes.j3]
 rcases Decode_any hb hl with h | ⟨a0,a1,a2,fs,ds,ho,he,h⟩
 ·refine Ev.bind h (Ev.ite_neg (by simp) (Ev.ite_pos rfl (Ev.ite_pos rfl (Ev.same ?_))))
  simp
 ·refine Ev.bind h (Ev.ite_pos rfl (Ev.bind (Encode_ev a0 a1 a2 fs ds ho) (Ev.ite_pos rfl (Ev.same ?_))))
  simp [he]
theorem set_bytes {l : List Int} (hb : Bytes l) (i : Nat) {x : Int} (h0 : 0 ≤ x) (h1 : x < 256) : Bytes (l.set i x) := by
 intro c hc
 rcases List.mem_or_eq_of_mem_set hc with h | h
 ·exact hb c h
 ·rw [h];exact ⟨h0,h1⟩
theorem xor_byte {a b : Int} (ha : 0 ≤ a ∧ a < 256) (hb : 0 ≤ b ∧ b < 256) : 0 ≤ Go.bits .xor .u8 a b ∧ Go.bits .xor .u8 a b < 256 := by
 obtain ⟨n,rfl⟩ := Int.eq_ofNat_of_zero_le ha.1
 obtain ⟨m,rfl⟩ := Int.eq_ofNat_of_zero_le hb.1
 rw [xor8 (by omega) (by omega)]
 have : n ^^^ m < 2 ^ 8 := Nat.xor_lt_two_pow (by omega) (by omega)
 omega
theorem bytes_j1 {p : List Int} (hb : Bytes p) (hl : p.length ≤ 100000000) (a2 a3 : Int) (h3 : 0 ≤ a3 ∧ a3 < 256) : Ev (fun k => incipitlaw19_EditBytes.j1 k a2 a3 p false) true := by
 have j2 : ∀ b : Bool,(b = true → 0 ≤ a2 ∧ 0 < p.length) → Ev (fun k => incipitlaw19_EditBytes.j2 k a2 a3 p b) true := by
  intro b hbb
  refine Ev.succ ?_
  simp only [incipitlaw19_EditBytes.j2]
  cases b with
  | false => exact Ev.ite_neg (by simp) (bytes_j3 hb (by omega))
  | true =>
   obtain ⟨h0,hp⟩ := hbb rfl
   have m0 := Int.tmod_nonneg (p.length : Int) h0
   have m1 := Int.tmod_lt_of_pos a2 (show (0 : Int) < p.length by omega)
   refine Ev.ite_pos rfl (Ev.ite_neg (by omega) (Ev.ite_pos m0 (Ev.ite_pos m1 (bytes_j3 ?_ (by rw [List.length_set];omega)))))
   have hr : 0 ≤ rd p (Int.tmod a2 p.length) ∧ rd p (Int.tmod a2 p.length) < 256 := by unfold rd;exact hb.getD _
   have := xor_byte hr h3
   exact set_bytes hb _ this.1 this.2
 refine Ev.succ ?_
 simp only [incipitlaw19_EditBytes.j1,List.nil_append,Option.bind_some]
 refine Ev.ite_neg (by simp) (Ev.ite_pos (by simp only [List.length_nil];omega) ?_)
 by_cases c : a2 ≥ 0
 ·refine Ev.ite_pos c (j2 _ fun h => ⟨c,?_⟩)
  have := of_decide_eq_true h
  omega
 ·exact Ev.ite_neg c (j2 _ fun h => by cases h)
theorem u8_of {n : Int} (h : (Lit.int .u8 n).wf = true) : 0 ≤ n ∧ n < 256 := by
 have : 0 ≤ n ∧ n ≤ 255 := by simpa [Lit.wf,IntKind.min,IntKind.max,IntKind.signed,IntKind.bits] using h
 omega
theorem bytes_all (x0 x1 : S43) (a2 a3 : Int) (h3 : (Lit.int .u8 a3).wf = true) : Ev (fun k => incipitlaw19_EditBytes.f k x0.f0 x0.f1 x0.f2 x0.f3 x0.f4 x1.f0 x1.f1 x1.f2 x1.f3 x1.f4 a2 a3) true := by
 obtain ⟨fs,ds,hc,hfl,hdl⟩ := Cut_ev x0.f0 x0.f1 x0.f2 x0.f3 x0.f4
 obtain ⟨gs,es,hd,hgl,hel⟩ := Cut_ev x1.f0 x1.f1 x1.f2 x1.f3 x1.f4
 generalize x0.f0 = a at *
 generalize x0.f1 = b at *
 generalize x0.f2 = c at *
 generalize x1.f0 = p at *
 generalize x1.f1 = q at *
 generalize x1.f2 = r at *
 have hm := MayEdit_ev a b c fs ds hfl hdl
 have hk := Check_ev a b c fs ds (by omega) (by omega)
 unfold incipitlaw19_EditBytes.f
 refine Ev.bind bBegun_ev (Ev.ite_pos rfl (Ev.bind hc (Ev.bind hd ?_)))
 cases ho : okB a b c fs ds with
 | false =>
  rw [ho] at hm hk
  rw [if_neg (by simp)] at hk
  refine Ev.bind (Encode_no a b c fs ds (by omega) (by omega) ho) (Ev.bind hm (Ev.ite_neg (by simp) (Ev.ite_pos rfl (Ev.ite_pos rfl (Ev.bind hk (Ev.now _))))))
 | true =>
  rw [ho] at hm hk
  rw [if_pos rfl] at hk
  obtain ⟨t,ht,hte⟩ := EqEdit_ev a b c a b c fs fs ds ds (by omega) (by omega)
  have htt : t = true := hte.2 rfl
  rw [htt] at ht
  refine Ev.bind (Encode_ev a b c fs ds ho) (Ev.bind hm (Ev.ite_pos rfl (Ev.bind (Decode_ev a b c fs ds ho) (Ev.ite_pos rfl (Ev.ite_pos rfl (Ev.bind ht (Ev.ite_pos rfl (Ev.bind hk ?_))))))))
  have hB := encE_bytes ho
  have hL := encE_len ho
  refine Ev.succ ?_
  simp only [incipitlaw19_EditBytes.j0]
  refine Ev.ite_neg (by simp) ?_
  cases ho2 : okB p q r gs es with
  | false => exact Ev.bind (Encode_no p q r gs es (by omega) (by omega) ho2) (Ev.ite_neg (by simp) (bytes_j1 hB hL a2 a3 (u8_of h3)))
  | true =>
   obtain ⟨u,hu,hue⟩ := EqEdit_ev a b c p q r fs gs ds es (by omega) (by omega)
   refine Ev.bind (Encode_ev p q r gs es ho2) (Ev.ite_pos rfl (Ev.bind hu ?_))
   have e : (((strOfNums (encE a b c fs ds)).toList == (strOfNums (encE p q r gs es)).toList) != u) = false := by
    have : ((strOfNums (encE a b c fs ds)).toList == (strOfNums (encE p q r gs es)).toList) = u := by
     rw [Bool.eq_iff_iff,hue,beq_iff_eq]
     constructor
     ·intro h;exact encE_inj ho ho2 (strOf_inj hB (encE_bytes ho2) h)
     ·intro h
      simp only [Prod.mk.injEq] at h
      obtain ⟨h0,h1,h2,h3,h4⟩ := h
      rw [h0,h1,h2,h3,h4]
    rw [this];simp
   simp only [e]
   exact bytes_j1 hB hL a2 a3 (u8_of h3)
theorem EditBytes : ∀ (x0 x1 : S43) (a2 a3 : Int),((Lit.int .i64 x0.f0).wf = true ∧ (Lit.int .i64 x0.f1).wf = true ∧ (Lit.int .i64 x0.f2).wf = true ∧ (x0.f3.length ≤ maxLen ∧ ∀ x ∈ x0.f3,((Lit.int .i64 x.f0).wf = true ∧ (Lit.int .i64 x.f1).wf = true ∧ (Lit.int .i64 x.f2).wf = true ∧ x.f3.size ≤ maxLen ∧ x.f4.size ≤ maxLen)) ∧ (x0.f4.length ≤ maxLen ∧ ∀ x ∈ x0.f4,(Lit.int .i64 x).wf = true)) → ((Lit.int .i64 x1.f0).wf = true ∧ (Lit.int .i64 x1.f1).wf = true ∧ (Lit.int .i64 x1.f2).wf = true ∧ (x1.f3.length ≤ maxLen ∧ ∀ x ∈ x1.f3,((Lit.int .i64 x.f0).wf = true ∧ (Lit.int .i64 x.f1).wf = true ∧ (Lit.int .i64 x.f2).wf = true ∧ x.f3.size ≤ maxLen ∧ x.f4.size ≤ maxLen)) ∧ (x1.f4.length ≤ maxLen ∧ ∀ x ∈ x1.f4,(Lit.int .i64 x).wf = true)) → (Lit.int .i64 a2).wf = true → (Lit.int .u8 a3).wf = true → ∃ k,incipitlaw19_EditBytes.f k x0.f0 x0.f1 x0.f2 x0.f3 x0.f4 x1.f0 x1.f1 x1.f2 x1.f3 x1.f4 a2 a3 = some true :=
 fun x0 x1 a2 a3 _ _ _ h3 => Ev.rounds (g := fun k => incipitlaw19_EditBytes.f k x0.f0 x0.f1 x0.f2 x0.f3 x0.f4 x1.f0 x1.f1 x1.f2 x1.f3 x1.f4 a2 a3) (bytes_all x0 x1 a2 a3 h3)
end Go.Proofs.Ytoglanahjlfihaa.Pure
