/- Edits go to bytes and back: edit.Check, edit.Encode, edit.Decode. -/
import Derived.Test.YtoglanahjlfihaaMEdtx0
import Derived.Test.YtoglanahjlfihaaMEdtx1
import Derived.Test.YtoglanahjlfihaaMEdtx2
import Derived.Test.YtoglanahjlfihaaMEdtx3
import Derived.Test.YtoglanahjlfihaaQEdtGetPutV
import Derived.Test.YtoglanahjlfihaaQEdtGetTextV
namespace Go.Proofs.Ytoglanahjlfihaa.QEdt
open Go.RowKit Go.Proofs.Ytoglanahjlfihaa.MEdt Go.Proofs.Ytoglanahjlfihaa.QEdt Go.Proofs.YtoglanahjlfihaaW.PrintWords Go.Proofs.YtoglanahjlfihaaW.PrintLast Go.Proofs.YtoglanahjlfihaaW.PrintMore
set_option linter.unusedVariables false
set_option linter.unusedSimpArgs false
def encN (l : List Int) : List Int := (l.map (fun n => put n.toNat)).flatten
def txt (s : ByteArray) : List Int := put s.size ++ bytesOf s
def encF (f : S55) : List Int := encN [f.f0,f.f1,f.f2] ++ (txt f.f3 ++ txt f.f4)
def encFs (fs : List S55) : List Int := (fs.map encF).flatten
def encE (a0 a1 a2 : Int) (fs : List S55) (ds : List Int) : List Int := encN [a0,a1,a2,(fs.length : Int)] ++ (encFs fs ++ (encN [(ds.length : Int)] ++ encN ds))
theorem encN_cons (n : Int) (t : List Int) : encN (n :: t) = put n.toNat ++ encN t := by simp [encN]
theorem encFs_cons (f : S55) (t : List S55) : encFs (f :: t) = encF f ++ encFs t := by simp [encFs]
def okN (n : Int) : Prop := 0 ≤ n ∧ n ≤ 1125899906842624
theorem okN.lt {n : Int} (h : okN n) : n.toNat < 18446744073709551616 := by have := h.2;have := h.1;omega
theorem okN.u64 {n : Int} (h : okN n) : IntKind.u64.wrap n = (n.toNat : Int) := by rw [u64_id h.1 (by have := h.2;omega)];have := h.1;omega
theorem encN_len : ∀ l : List Int,(∀ n ∈ l,okN n) → (encN l).length ≤ 10 * l.length
 | [],_ => by simp [encN]
 | n :: t,h => by
  rw [encN_cons,List.length_append,List.length_cons]
  have h1 := put_length10 (h n (List.mem_cons_self ..)).lt
  have h2 := encN_len t (fun x hx => h x (List.mem_cons_of_mem _ hx))
  omega
theorem encN_bytes : ∀ l : List Int,(∀ n ∈ l,okN n) → Bytes (encN l)
 | [],_ => by intro c hc;simp [encN] at hc
 | n :: t,h => by
  rw [encN_cons]
  exact (put_bytes (h n (List.mem_cons_self ..)).lt).append (encN_bytes t (fun x hx => h x (List.mem_cons_of_mem _ hx)))
theorem txt_len (s : ByteArray) (h : s.size ≤ 13000) : (txt s).length ≤ 13010 := by
 unfold txt
 rw [List.length_append,bytesOf_length]
 have := put_length10 (n := s.size) (by omega)
 omega
theorem bytesOf_bytes (s : ByteArray) : Bytes (bytesOf s) := by
 intro c hc
 unfold bytesOf at hc
 obtain ⟨b,_,rfl⟩ := List.mem_map.1 hc
 have := b.toNat_lt
 omega
theorem txt_bytes (s : ByteArray) (h : s.size ≤ 13000) : Bytes (txt s) := (put_bytes (by omega)).append (bytesOf_bytes s)
structure okF (f : S55) : Prop where
 n0 : 1 ≤ f.f0 ∧ f.f0 ≤ 1125899906842624
 n1 : 0 ≤ f.f1 ∧ f.f1 ≤ 4
 n2 : 0 ≤ f.f2 ∧ f.f2 ≤ 16777216
 s3 : f.f3.size ≤ 13000
 s4 : f.f4.size ≤ 13000
theorem okF.nums {f : S55} (h : okF f) : ∀ n ∈ [f.f0,f.f1,f.f2],okN n := by
 intro n hn
 have h0 := h.n0;have h1 := h.n1;have h2 := h.n2
 simp only [List.mem_cons,List.not_mem_nil,or_false] at hn
 unfold okN
 rcases hn with rfl | rfl | rfl <;> omega
theorem encF_len {f : S55} (h : okF f) : (encF f).length ≤ 26050 := by
 unfold encF
 rw [List.length_append,List.length_append]
 have h1 := encN_len _ h.nums
 simp only [List.length_cons,List.length_nil] at h1
 have h2 := txt_len _ h.s3
 have h3 := txt_len _ h.s4
 omega
theorem encF_bytes {f : S55} (h : okF f) : Bytes (encF f) := (encN_bytes _ h.nums).append ((txt_bytes _ h.s3).append (txt_bytes _ h.s4))
theorem encFs_len : ∀ fs : List S55,(∀ f ∈ fs,okF f) → (encFs fs).length ≤ 26050 * fs.length
 | [],_ => by simp [encFs]
 | f :: t,h => by
  rw [encFs_cons,List.length_append,List.length_cons]
  have h1 := encF_len (h f (List.mem_cons_self ..))
  have h2 := encFs_len t (fun x hx => h x (List.mem_cons_of_mem _ hx))
  omega
theorem encFs_bytes : ∀ fs : List S55,(∀ f ∈ fs,okF f) → Bytes (encFs fs)
 | [],_ => by intro c hc;simp [encFs] at hc
 | f :: t,h => by
  rw [encFs_cons]
  exact (encF_bytes (h f (List.mem_cons_self ..))).append (encFs_bytes t (fun x hx => h x (List.mem_cons_of_mem _ hx)))
theorem putAll_ev : ∀ (l b : List Int),(∀ n ∈ l,okN n) → b.length + 10 * l.length < 140737488355328 → Ev (fun k => MEdt.putAll k l b) (b ++ encN l)
 | [],b,_,_ => by simp only [MEdt.putAll,encN,List.map_nil,List.flatten_nil,List.append_nil];exact Ev.now _
 | n :: t,b,h,hl => by
  have hn := h n (List.mem_cons_self ..)
  have h1 := put_length10 hn.lt
  rw [List.length_cons] at hl
  have ih := putAll_ev t (b ++ put n.toNat) (fun x hx => h x (List.mem_cons_of_mem _ hx)) (by rw [List.length_append];omega)
  rw [List.append_assoc,← encN_cons] at ih
  simp only [MEdt.putAll,hn.u64]
  exact Ev.bind (Put_ev hn.lt) (Ev.ite_pos (by omega) ih)
theorem text_ev (s : ByteArray) (h : s.size ≤ 13000) : Ev (fun k => varint_Text.f k s) (txt s) := by
 unfold varint_Text.f txt
 rw [u64_id (by omega) (by omega)]
 have h1 := put_length10 (n := s.size) (by omega)
 exact Ev.bind (Put_ev (by omega)) (Ev.ite_pos (by omega) (Ev.now _))
theorem putFiles_ev : ∀ (fs : List S55) (b : List Int),(∀ f ∈ fs,okF f) → b.length + 30000 * fs.length < 140737488355328 → Ev (fun k => putFiles k fs b) (b ++ encFs fs)
 | [],b,_,_ => by simp only [putFiles,encFs,List.map_nil,List.flatten_nil,List.append_nil];exact Ev.now _
 | f :: t,b,h,hl => by
  have hf := h f (List.mem_cons_self ..)
  rw [List.length_cons] at hl
  have h1 := encN_len _ hf.nums
  simp only [List.length_cons,List.length_nil] at h1
  have h2 := txt_len _ hf.s3
  have h3 := txt_len _ hf.s4
  have ih := putFiles_ev t (b ++ encN [f.f0,f.f1,f.f2] ++ txt f.f3 ++ txt f.f4) (fun x hx => h x (List.mem_cons_of_mem _ hx)) (by simp only [List.length_append];omega)
  have e : b ++ encN [f.f0,f.f1,f.f2] ++ txt f.f3 ++ txt f.f4 ++ encFs t = b ++ encFs (f :: t) := by rw [encFs_cons];unfold encF;simp only [List.append_assoc]
  rw [e] at ih
  simp only [putFiles]
  exact Ev.bind (putAll_ev _ b hf.nums (by simp only [List.length_cons,List.length_nil];omega)) (Ev.bind (text_ev _ hf.s3) (Ev.bind (text_ev _ hf.s4) (Ev.ite_pos (by simp only [List.length_append];omega) ih)))
def inB (lo hi : Int) (l : List Int) : Bool := l.all (fun n => decide (lo ≤ n) && decide (n ≤ hi))
theorem in_l0 (lo hi : Int) (l : List Int) (hl : l.length < 1000000) (d : Nat) : ∀ i : Nat,l.length - i = d → Ev (fun k => edit_in.l0 k lo hi l (l.length : Int) (i : Int)) (inB lo hi (l.drop i)) := by
 induction d with
 | zero =>
  intro i hd
  refine Ev.succ ?_
  simp only [edit_in.l0]
  rw [List.drop_eq_nil_of_le (by omega)]
  exact Ev.ite_neg (by omega) (Ev.now _)
 | succ d ih =>
  intro i hd
  have hlt : i < l.length := by omega
  have en : wrap64 ((i : Int) + 1) = ((i + 1 : Nat) : Int) := by rw [wrap64_id (by omega) (by omega)];omega
  refine Ev.succ ?_
  simp only [edit_in.l0,en,rd_nat]
  rw [List.drop_eq_getElem_cons hlt,show l.getD i 0 = l[i] by rw [List.getD_eq_getElem?_getD,List.getElem?_eq_getElem hlt];rfl]
  refine Ev.ite_pos (by omega) (Ev.ite_pos (by omega) (Ev.ite_pos (by omega) ?_))
  have e : inB lo hi (l[i] :: l.drop (i + 1)) = ((decide (lo ≤ l[i]) && decide (l[i] ≤ hi)) && inB lo hi (l.drop (i + 1))) := rfl
  rw [e]
  by_cases c1 : l[i] < lo
  ·rw [decide_eq_false (show ¬ lo ≤ l[i] by omega)];exact Ev.ite_pos c1 (Ev.now _)
  ·refine Ev.ite_neg c1 ?_
   rw [decide_eq_true (show lo ≤ l[i] by omega)]
   by_cases c2 : l[i] > hi
   ·rw [decide_eq_false (show ¬ l[i] ≤ hi by omega)];exact Ev.ite_pos c2 (Ev.now _)
   ·rw [decide_eq_true (show l[i] ≤ hi by omega)]
    exact Ev.ite_neg c2 (ih (i + 1) (by omega))
theorem in_ev (lo hi : Int) (l : List Int) (hl : l.length < 1000000) : Ev (fun k => edit_in.f k lo hi l) (inB lo hi l) := in_l0 lo hi l hl l.length 0 rfl
def fileB (f : S55) : Bool := inB 1 1125899906842624 [f.f0] && (inB 0 4 [f.f1] && (inB 0 16777216 [f.f2] && (!(Op.bytesLess f.f4.toList f.f3.toList) && (decide ((f.f3.size : Int) ≤ 13000) && decide ((f.f4.size : Int) ≤ 13000)))))
theorem file_ev (f : S55) : Ev (fun k => edit_file.f k f.f0 f.f1 f.f2 f.f3 f.f4) (fileB f) := by
 unfold edit_file.f fileB
 refine Ev.bind (in_ev 1 1125899906842624 [f.f0] (by simp)) ?_
 cases inB 1 1125899906842624 [f.f0] with
 | false => exact Ev.ite_neg (by simp) (Ev.now _)
 | true =>
  refine Ev.ite_pos rfl (Ev.bind (in_ev 0 4 [f.f1] (by simp)) ?_)
  cases inB 0 4 [f.f1] with
  | false => exact Ev.ite_neg (by simp) (Ev.now _)
  | true =>
   refine Ev.ite_pos rfl (Ev.bind (in_ev 0 16777216 [f.f2] (by simp)) ?_)
   cases inB 0 16777216 [f.f2] with
   | false => exact Ev.ite_neg (by simp) (Ev.now _)
   | true =>
    refine Ev.ite_pos rfl ?_
    cases Op.bytesLess f.f4.toList f.f3.toList with
    | true => exact Ev.ite_pos rfl (Ev.now _)
    | false =>
     refine Ev.ite_neg (by simp) ?_
     by_cases c : (f.f3.size : Int) ≤ 13000
     ·rw [decide_eq_true c];exact Ev.ite_pos c (Ev.now _)
     ·rw [decide_eq_false c];exact Ev.ite_neg c (Ev.now _)
theorem okF_of {f : S55} (h : fileB f = true) : okF f := by
 simp only [fileB,inB,List.all_cons,List.all_nil,Bool.and_true,Bool.and_eq_true,decide_eq_true_eq] at h
 obtain ⟨h0,h1,h2,_,h3,h4⟩ := h
 exact ⟨h0,h1,h2,by omega,by omega⟩
def okB (a0 a1 a2 : Int) (fs : List S55) (ds : List Int) : Bool := inB 0 1125899906842624 [a0,a1,a2] && (decide ((fs.length : Int) ≤ 200) && (decide ((ds.length : Int) ≤ 200) && (inB 1 1125899906842624 ds && fs.all fileB)))
theorem rd55 (l : List S55) (i : Nat) (h : i < l.length) : rd_T55 l (i : Int) = l[i] := by
 unfold rd_T55;rw [Int.toNat_natCast,List.getD_eq_getElem?_getD,List.getElem?_eq_getElem h];rfl
theorem Check_l0 (fs : List S55) (hl : fs.length < 1000000) (d : Nat) : ∀ (i : Nat) (x : Bool),fs.length - i = d → Ev (fun k => edit_Check.l0 k x fs (fs.length : Int) (i : Int)) (if (x && (fs.drop i).all fileB) = true then 0 else 12) := by
 induction d with
 | zero =>
  intro i x hd
  refine Ev.succ ?_
  simp only [edit_Check.l0]
  rw [List.drop_eq_nil_of_le (by omega),List.all_nil,Bool.and_true]
  refine Ev.ite_neg (by omega) ?_
  cases x with
  | true => exact Ev.ite_pos rfl (Ev.now _)
  | false => exact Ev.ite_neg (by simp) (Ev.now _)
 | succ d ih =>
  intro i x hd
  have hi : i < fs.length := by omega
  have en : wrap64 ((i : Int) + 1) = ((i + 1 : Nat) : Int) := by rw [wrap64_id (by omega) (by omega)];omega
  refine Ev.succ ?_
  simp only [edit_Check.l0,en,rd55 fs i hi]
  rw [List.drop_eq_getElem_cons hi,List.all_cons]
  refine Ev.ite_pos (by omega) (Ev.ite_pos (by omega) (Ev.ite_pos (by omega) ?_))
  cases x with
  | true =>
   refine Ev.ite_pos rfl (Ev.bind (file_ev fs[i]) ?_)
   have := ih (i + 1) (fileB fs[i]) (by omega)
   rw [Bool.true_and]
   exact this
  | false =>
   have := ih (i + 1) false (by omega)
   rw [Bool.false_and] at this ⊢
   exact Ev.ite_neg (by simp) this
theorem Check_ev (a0 a1 a2 : Int) (fs : List S55) (ds : List Int) (hf : fs.length < 1000000) (hd : ds.length < 1000000) : Ev (fun k => edit_Check.f k a0 a1 a2 fs ds) (if okB a0 a1 a2 fs ds = true then 0 else 12) := by
 have j : ∀ x : Bool,Ev (fun k => edit_Check.j0 k x a0 a1 a2 fs ds) (if (x && fs.all fileB) = true then 0 else 12) := by
  intro x
  refine Ev.succ ?_
  simp only [edit_Check.j0]
  have := Check_l0 fs hf fs.length 0 x rfl
  rw [List.drop_zero] at this
  exact this
 unfold edit_Check.f okB
 refine Ev.bind (in_ev 0 1125899906842624 [a0,a1,a2] (by simp)) ?_
 cases inB 0 1125899906842624 [a0,a1,a2] with
 | false => exact Ev.ite_neg (by simp) (j false)
 | true =>
  refine Ev.ite_pos rfl ?_
  by_cases c1 : (fs.length : Int) ≤ 200
  ·rw [decide_eq_true c1]
   refine Ev.ite_pos c1 ?_
   by_cases c2 : (ds.length : Int) ≤ 200
   ·rw [decide_eq_true c2]
    exact Ev.ite_pos c2 (Ev.bind (in_ev 1 1125899906842624 ds hd) (j _))
   ·rw [decide_eq_false c2];exact Ev.ite_neg c2 (j false)
  ·rw [decide_eq_false c1];exact Ev.ite_neg c1 (j false)
theorem okB_files {a0 a1 a2 : Int} {fs : List S55} {ds : List Int} (h : okB a0 a1 a2 fs ds = true) : ∀ f ∈ fs,okF f := by
 simp only [okB,Bool.and_eq_true,List.all_eq_true] at h
 exact fun f hf => okF_of (h.2.2.2.2 f hf)
theorem okB_dels {a0 a1 a2 : Int} {fs : List S55} {ds : List Int} (h : okB a0 a1 a2 fs ds = true) : ∀ n ∈ ds,okN n := by
 simp only [okB,inB,Bool.and_eq_true,List.all_eq_true,decide_eq_true_eq] at h
 intro n hn
 have := h.2.2.2.1 n hn
 exact ⟨by omega,this.2⟩
theorem okB_heads {a0 a1 a2 : Int} {fs : List S55} {ds : List Int} (h : okB a0 a1 a2 fs ds = true) : okN a0 ∧ okN a1 ∧ okN a2 ∧ fs.length ≤ 200 ∧ ds.length ≤ 200 := by
 simp only [okB,inB,Bool.and_eq_true,List.all_cons,List.all_nil,Bool.and_true,decide_eq_true_eq] at h
 obtain ⟨⟨h0,h1,h2⟩,h3,h4,_⟩ := h
 exact ⟨h0,h1,h2,by omega,by omega⟩
theorem Encode_no (a0 a1 a2 : Int) (fs : List S55) (ds : List Int) (hf : fs.length < 1000000) (hd : ds.length < 1000000) (h : okB a0 a1 a2 fs ds = false) : Ev (fun k => edit_Encode.f k a0 a1 a2 fs ds) ([],12) := by
 have hc := Check_ev a0 a1 a2 fs ds hf hd
 rw [h,if_neg (by simp)] at hc
 unfold edit_Encode.f
 exact Ev.bind hc (Ev.ite_neg (by decide) (Ev.now _))
theorem Encode_ev (a0 a1 a2 : Int) (fs : List S55) (ds : List Int) (h : okB a0 a1 a2 fs ds = true) : Ev (fun k => edit_Encode.f k a0 a1 a2 fs ds) (encE a0 a1 a2 fs ds,0) := by
 obtain ⟨h0,h1,h2,h3,h4⟩ := okB_heads h
 have hfs := okB_files h
 have hds := okB_dels h
 have hc := Check_ev a0 a1 a2 fs ds (by omega) (by omega)
 rw [h,if_pos rfl] at hc
 have n1 : ∀ n ∈ [a0,a1,a2,(fs.length : Int)],okN n := by
  intro n hn
  simp only [List.mem_cons,List.not_mem_nil,or_false] at hn
  rcases hn with rfl | rfl | rfl | rfl
  ·exact h0
  ·exact h1
  ·exact h2
  ·exact ⟨by omega,by omega⟩
 have n2 : ∀ n ∈ [(ds.length : Int)],okN n := by
  intro n hn
  simp only [List.mem_cons,List.not_mem_nil,or_false] at hn
  subst hn
  exact ⟨by omega,by omega⟩
 have l1 := encN_len _ n1
 have l2 := encN_len _ n2
 have l3 := encFs_len _ hfs
 simp only [List.length_cons,List.length_nil] at l1 l2
 unfold edit_Encode.f
 refine Ev.bind hc (Ev.ite_pos rfl ?_)
 refine Ev.bind (putAll_ev _ [] n1 (by simp)) (Ev.bind (putFiles_ev fs _ hfs (by simp only [List.nil_append];omega)) (Ev.bind (putAll_ev _ _ n2 (by simp only [List.nil_append,List.length_append,List.length_cons,List.length_nil];omega)) (Ev.bind (putAll_ev ds _ hds (by simp only [List.nil_append,List.length_append];omega)) ?_)))
 refine Ev.same ?_
 unfold encE
 simp only [List.nil_append,List.append_assoc]
theorem num_ev {n : Int} (hn : okN n) {most : Int} (hm : n ≤ most) (hM : most ≤ 1125899906842624) (rest : List Int) (hb : Bytes rest) : Ev (fun k => numF k (put n.toNat ++ rest) false most) (n,rest,false) := by
 have h1 := put_pos hn.lt
 have h0 := hn.1
 unfold numF
 refine Ev.bind (Get_ev ((put_bytes hn.lt).append hb)) ?_
 rw [get_put hn.lt rest]
 refine Ev.same ?_
 have e1 : ((n.toNat : Nat) : Int) = n := by omega
 have e2 : IntKind.u64.wrap most = most := u64_id (by omega) (by omega)
 simp only [e1,e2]
 rw [if_neg (by omega)]
 have es : stepF (put n.toNat ++ rest) false ((put n.toNat).length : Int) = some (rest,false) := by
  unfold stepF
  rw [if_neg (by simp),if_neg (by omega),if_pos (by rw [List.length_append];omega),Int.toNat_natCast,List.drop_left]
 rw [es,Option.bind_some]
 simp only [Bool.false_eq_true,if_false]
 rw [wrap64_id (by omega) (by have := hn.2;omega)]
theorem strOf_bytesOf (s : ByteArray) : strOfNums (bytesOf s) = s := by
 apply ByteArray.ext
 apply Array.toList_inj.1
 unfold strOfNums bytesOf
 rw [List.map_map]
 have : ((fun n : Int => UInt8.ofNat n.toNat) ∘ fun b : UInt8 => (b.toNat : Int)) = id := by
  funext b
  simp
 rw [this,List.map_id]
theorem textF_ev (s : ByteArray) (hs : s.size ≤ 13000) (rest : List Int) (hb : Bytes rest) (hl : rest.length ≤ 1000000000) : Ev (fun k => textF k (txt s ++ rest) false) (s,rest,false) := by
 have h1 := put_length10 (n := s.size) (by omega)
 have h2 := put_pos (n := s.size) (by omega)
 unfold textF
 have hB : Bytes (txt s ++ rest) := (txt_bytes s hs).append hb
 have hlen := txt_len s hs
 refine Ev.bind (GetText_ev hB (by rw [List.length_append];omega)) ?_
 have hg : get (txt s ++ rest) = ((s.size : Int),((put s.size).length : Int)) := by
  unfold txt
  rw [List.append_assoc]
  exact get_put (by omega) _
 have htl : (txt s ++ rest).length = (put s.size).length + s.size + rest.length := by
  unfold txt
  rw [List.length_append,List.length_append,bytesOf_length]
 have et : getText (txt s ++ rest) = (s,(((put s.size).length + s.size : Nat) : Int)) := by
  unfold getText
  rw [hg]
  simp only
  rw [if_neg (by omega),if_neg (by rw [htl];omega)]
  have e1 : (((put s.size).length : Int) + (s.size : Int)).toNat = (put s.size).length + s.size := by omega
  rw [e1,Int.toNat_natCast]
  have e2 : (txt s ++ rest).take ((put s.size).length + s.size) = txt s := by
   have hx : (put s.size).length + s.size = (txt s).length := by unfold txt;rw [List.length_append,bytesOf_length]
   rw [hx,List.take_left]
  rw [e2]
  unfold txt
  rw [List.drop_left,strOf_bytesOf]
  congr 1
 rw [et]
 refine Ev.same ?_
 have es : stepF (txt s ++ rest) false (((put s.size).length + s.size : Nat) : Int) = some (rest,false) := by
  unfold stepF
  rw [if_neg (by simp),if_neg (by omega),if_pos (by rw [htl];omega),Int.toNat_natCast]
  have hx : (put s.size).length + s.size = (txt s).length := by unfold txt;rw [List.length_append,bytesOf_length]
  rw [hx,List.drop_left]
 simp only [es,Option.bind_some,Bool.false_eq_true,if_false]
theorem decFiles_ev : ∀ (fs acc : List S55) (rest : List Int),(∀ f ∈ fs,okF f) → Bytes rest → acc.length + fs.length < 1000000 → rest.length + 30000 * fs.length ≤ 500000000 → Ev (fun k => decFiles k fs.length (encFs fs ++ rest) false acc) (acc ++ fs,rest,false)
 | [],acc,rest,_,_,_,_ => by
  simp only [decFiles,encFs,List.map_nil,List.flatten_nil,List.nil_append,List.length_nil,List.append_nil]
  exact Ev.now _
 | f :: t,acc,rest,h,hb,hl,hr => by
  have hf := h f (List.mem_cons_self ..)
  have ht : ∀ x ∈ t,okF x := fun x hx => h x (List.mem_cons_of_mem _ hx)
  rw [List.length_cons] at hl hr
  have hR : Bytes (encFs t ++ rest) := (encFs_bytes t ht).append hb
  have hRl := encFs_len t ht
  have h3 := txt_len _ hf.s3
  have h4 := txt_len _ hf.s4
  have n0 : okN f.f0 := hf.nums _ (by simp)
  have n1 : okN f.f1 := hf.nums _ (by simp)
  have n2 : okN f.f2 := hf.nums _ (by simp)
  have b4 := (txt_bytes _ hf.s4).append hR
  have b3 := (txt_bytes _ hf.s3).append b4
  have b2 := (put_bytes n2.lt).append b3
  have b1 := (put_bytes n1.lt).append b2
  have e : encFs (f :: t) ++ rest = put f.f0.toNat ++ (put f.f1.toNat ++ (put f.f2.toNat ++ (txt f.f3 ++ (txt f.f4 ++ (encFs t ++ rest))))) := by
   rw [encFs_cons];unfold encF;rw [encN_cons,encN_cons,encN_cons];simp [encN,List.append_assoc]
  rw [e,List.length_cons]
  have ih := decFiles_ev t (acc ++ [f]) rest ht hb (by rw [List.length_append,List.length_singleton];omega) (by omega)
  rw [List.append_assoc,List.singleton_append] at ih
  simp only [decFiles]
  refine Ev.bind (num_ev n0 n0.2 (by omega) _ b1) ?_
  refine Ev.bind (num_ev n1 (by have := hf.n1;omega) (by omega) _ b2) ?_
  refine Ev.bind (num_ev n2 hf.n2.2 (by omega) _ b3) ?_
  refine Ev.bind (textF_ev _ hf.s3 _ b4 (by simp only [List.length_append];omega)) ?_
  refine Ev.bind (textF_ev _ hf.s4 _ hR (by simp only [List.length_append];omega)) ?_
  exact Ev.ite_pos (by omega) ih
theorem decDels_ev : ∀ (ds acc : List Int) (rest : List Int),(∀ n ∈ ds,okN n) → Bytes rest → acc.length + ds.length < 1000000 → Ev (fun k => decDels k ds.length (encN ds ++ rest) false acc) (acc ++ ds,rest,false)
 | [],acc,rest,_,_,_ => by
  simp only [decDels,encN,List.map_nil,List.flatten_nil,List.nil_append,List.length_nil,List.append_nil]
  exact Ev.now _
 | n :: t,acc,rest,h,hb,hl => by
  have hn := h n (List.mem_cons_self ..)
  have ht : ∀ x ∈ t,okN x := fun x hx => h x (List.mem_cons_of_mem _ hx)
  rw [List.length_cons] at hl
  have ih := decDels_ev t (acc ++ [n]) rest ht hb (by rw [List.length_append,List.length_singleton];omega)
  rw [List.append_assoc,List.singleton_append] at ih
  rw [encN_cons,List.append_assoc,List.length_cons]
  simp only [decDels]
  exact Ev.bind (num_ev hn hn.2 (by omega) _ ((encN_bytes t ht).append hb)) (Ev.ite_pos (by omega) ih)
theorem Decode_ev (a0 a1 a2 : Int) (fs : List S55) (ds : List Int) (h : okB a0 a1 a2 fs ds = true) : Ev (fun k => edit_Decode.f k (encE a0 a1 a2 fs ds)) (a0,a1,a2,fs,ds,0) := by
 obtain ⟨h0,h1,h2,h3,h4⟩ := okB_heads h
 have hfs := okB_files h
 have hds := okB_dels h
 have nf : okN (fs.length : Int) := ⟨by omega,by omega⟩
 have nd : okN (ds.length : Int) := ⟨by omega,by omega⟩
 have lD := encN_len ds hds
 have lN := put_length10 nd.lt
 have bD : Bytes (encN ds ++ []) := by rw [List.append_nil];exact encN_bytes ds hds
 have b5 := (put_bytes nd.lt).append bD
 have b4 := (encFs_bytes fs hfs).append b5
 have b3 := (put_bytes nf.lt).append b4
 have b2 := (put_bytes h2.lt).append b3
 have b1 := (put_bytes h1.lt).append b2
 have e : encE a0 a1 a2 fs ds = put a0.toNat ++ (put a1.toNat ++ (put a2.toNat ++ (put (fs.length : Int).toNat ++ (encFs fs ++ (put (ds.length : Int).toNat ++ (encN ds ++ [])))))) := by
  unfold encE;rw [encN_cons,encN_cons,encN_cons,encN_cons,encN_cons];simp [encN,List.append_assoc]
 unfold edit_Decode.f
 have hE := Encode_ev a0 a1 a2 fs ds h
 generalize hG : encE a0 a1 a2 fs ds = G at hE ⊢
 have hGe : G = put a0.toNat ++ (put a1.toNat ++ (put a2.toNat ++ (put (fs.length : Int).toNat ++ (encFs fs ++ (put (ds.length : Int).toNat ++ (encN ds ++ [])))))) := hG.symm.trans e
 refine Ev.bind (a := (a0,put a1.toNat ++ (put a2.toNat ++ (put (fs.length : Int).toNat ++ (encFs fs ++ (put (ds.length : Int).toNat ++ (encN ds ++ []))))),false)) ?_ ?_
 ·rw [hGe];exact num_ev h0 h0.2 (by omega) _ b1
 refine Ev.bind (num_ev h1 h1.2 (by omega) _ b2) ?_
 refine Ev.bind (num_ev h2 h2.2 (by omega) _ b3) ?_
 refine Ev.bind (num_ev nf (by omega) (by omega) _ b4) ?_
 have d1 := decFiles_ev fs [] _ hfs b5 (by simp;omega) (by simp only [List.length_append,List.length_nil];omega)
 rw [List.nil_append] at d1
 refine Ev.bind (a := (fs,put (ds.length : Int).toNat ++ (encN ds ++ []),false)) (by simp only [Int.toNat_natCast] at d1 ⊢;exact d1) ?_
 refine Ev.bind (num_ev nd (by omega) (by omega) _ bD) ?_
 have d2 := decDels_ev ds [] [] hds (fun c hc => by cases hc) (by simp;omega)
 rw [List.nil_append] at d2
 refine Ev.bind (a := (ds,[],false)) (by simp only [Int.toNat_natCast];exact d2) ?_
 refine Ev.ite_pos (by simp) (Ev.bind hE (Ev.ite_pos rfl ?_))
 refine Ev.same ?_
 simp [bytes_Equal.f]
end Go.Proofs.Ytoglanahjlfihaa.QEdt
