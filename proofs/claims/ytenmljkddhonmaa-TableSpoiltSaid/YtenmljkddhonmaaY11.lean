import Derived.Test.YtenmljkddhonmaaY10
import Derived.Test.YtenmljkddhonmaaY4
import Derived.Test.YtenmljkddhonmaaY9
import Derived.Shelf.RegionOpenPlain
import Derived.Sort.WalkB12
import Derived.Sort.EncStr
import Derived.Lib.SliceRun
import Derived.Lib.SlicesS
import Derived.Lib.SlicesCompact
import Derived.Lib.OwnBridge
import Derived.Lib.Bytealg
import Derived.Lib.Strings
import Derived.Test.YtenmljkddhonmaaY2
import Derived.Test.YtenmljkddhonmaaY6
import Derived.Test.YtenmljkddhonmaaY3
namespace Go.Proofs.Ytenmljkddhonmaa.QTbl
open Go.RowKit Go.Proofs.Ytenmljkddhonmaa.MTbl Go.Proofs.YtenmljkddhonmaaW.PrintWords Go.Proofs.YtenmljkddhonmaaW.PrintLast Go.Proofs.YtenmljkddhonmaaW.PrintMore
set_option linter.unusedVariables false
set_option linter.unusedSimpArgs false
/-! Rows laid and read again. -/
theorem bytesOf_bytes (s : ByteArray) : Bytes (bytesOf s) := by
 intro c hc
 unfold bytesOf at hc
 obtain ⟨b, _, rfl⟩ := List.mem_map.1 hc
 have := b.toNat_lt
 omega
theorem strOf_bytesOf (s : ByteArray) : strOfNums (bytesOf s) = s := by
 apply ByteArray.ext
 apply Array.toList_inj.1
 unfold strOfNums bytesOf
 rw [List.map_map]
 have : ((fun n : Int => UInt8.ofNat n.toNat) ∘ fun b : UInt8 => (b.toNat : Int)) = id := by
  funext b
  simp
 rw [this, List.map_id]
theorem bytesOf_strOf {l : List Int} (h : Bytes l) : bytesOf (strOfNums l) = l := by
 unfold strOfNums bytesOf
 rw [List.toList_toArray, List.map_map]
 refine (List.map_congr_left (fun x hx => ?_)).trans (List.map_id l)
 obtain ⟨h0, h1⟩ := h x hx
 show ((UInt8.ofNat x.toNat).toNat : Int) = x
 rw [UInt8.toNat_ofNat']
 omega
theorem bytesOf_inj {a b : ByteArray} (h : bytesOf a = bytesOf b) : a = b := by rw [← strOf_bytesOf a, h, strOf_bytesOf]
theorem bytesOf_app (a b : ByteArray) : bytesOf (a ++ b) = bytesOf a ++ bytesOf b := by
 unfold bytesOf
 rw [ByteArray.data_append, Array.toList_append, List.map_append]
theorem bytesOf_to (k : ByteArray) (n : Nat) : bytesOf (k.extract 0 n) = (bytesOf k).take n := by
 unfold bytesOf
 rw [ByteArray.data_extract,Array.toList_extract,List.extract_eq_take_drop,List.drop_zero,Nat.sub_zero,List.map_take]
theorem cpl_take : ∀ a b : List Int, a.take (cpl a b) = b.take (cpl a b)
 | [], b => by simp [cpl]
 | _ :: _, [] => by simp [cpl]
 | x :: a, y :: b => by
  unfold cpl
  split
  ·rename_i h; subst h; simp only [List.take_succ_cons]; rw [cpl_take a b]
  ·simp
theorem sh_le (s : St) (k : ByteArray) : s.sh k ≤ s.last.size ∧ s.sh k ≤ k.size := by
 unfold St.sh
 split
 ·omega
 ·have := cpl_le (bytesOf s.last) (bytesOf k)
  rwa [bytesOf_length, bytesOf_length] at this
theorem sh_take (s : St) (k : ByteArray) : (bytesOf s.last).take (s.sh k) = (bytesOf k).take (s.sh k) := by
 unfold St.sh
 split
 ·simp
 ·exact cpl_take _ _
/-- What a row comes to. -/
def chunk (s : St) (r : S136) : List Int:=(put (s.sh r.f0) ++ put (r.f0.size - s.sh r.f0) ++ put r.f1.size) ++ (bytesOf r.f0).drop (s.sh r.f0) ++ bytesOf r.f1
def chunks : St → List S136 → List Int
 | _, [] => []
 | s, r :: t => chunk s r ++ chunks (addT s r.f0 r.f1) t
/-- All rows added. -/
def addTs : St → List S136 → St
 | s, [] => s
 | s, r :: t => addTs (addT s r.f0 r.f1) t
theorem addTs_b : ∀ (s : St) (l : List S136), (addTs s l).b = s.b ++ chunks s l
 | s, [] => by simp [addTs, chunks]
 | s, r :: t => by
  rw [addTs, chunks, addTs_b]
  simp only [addT, chunk, List.append_assoc]
theorem addTs_p : ∀ (s : St) (l : List S136), s.p.length % 4 = 0 → (addTs s l).p.length % 4 = 0
 | s, [], h => h
 | s, r :: t, h => by
  rw [addTs]
  refine addTs_p _ t ?_
  simp only [addT]
  split
  ·rw [List.length_append, fix_length]; omega
  ·exact h
theorem rd1_put {n L : Nat} {rest : List Int} (h : n < 18446744073709551616) (hb : n ≤ (put n ++ rest).length + L) : rd1 (put n ++ rest) L = some ((n : Int),rest):=by
 unfold rd1
 rw [get_put h rest]
 have := put_pos h
 simp only
 rw [if_neg (by omega), if_neg (by omega), Int.toNat_natCast, List.drop_left]
theorem rdR_chunk (s : St) (r : S136) (rest : List Int) (acc : List S136) (f : Nat) (hr : Fit r) : rdR (f + 1) (chunk s r ++ rest) s.last acc = rdR f rest r.f0 (acc ++ [r]):=by
 obtain ⟨h1, h2⟩ := hr
 obtain ⟨g1, g2⟩ := sh_le s r.f0
 have ht := sh_take s r.f0
 have hdl : ((bytesOf r.f0).drop (s.sh r.f0)).length = r.f0.size - s.sh r.f0:=by rw [List.length_drop,bytesOf_length]
 have hvl : (bytesOf r.f1).length = r.f1.size := bytesOf_length _
 have e1 : chunk s r ++ rest = put (s.sh r.f0) ++ (put (r.f0.size - s.sh r.f0) ++ (put r.f1.size ++ ((bytesOf r.f0).drop (s.sh r.f0) ++ (bytesOf r.f1 ++ rest)))):=by simp only [chunk,List.append_assoc]
 have hne : chunk s r ++ rest ≠ [] := by
  intro h
  have h3 := congrArg List.length h
  have := put_pos (n := s.sh r.f0) (by omega)
  rw [e1] at h3
  simp only [List.length_append, List.length_nil] at h3
  omega
 have hN : rdN 3 (chunk s r ++ rest) s.last.size [] = some ([((s.sh r.f0 : Nat) : Int),((r.f0.size - s.sh r.f0 : Nat) : Int),((r.f1.size : Nat) : Int)],(bytesOf r.f0).drop (s.sh r.f0) ++ (bytesOf r.f1 ++ rest)):=by
  rw [e1, rdN, rd1_put (by omega) (by omega), Option.bind_some, rdN]
  simp only
  rw [rd1_put (by omega) (by simp only [List.length_append]; omega), Option.bind_some, rdN]
  simp only
  rw [rd1_put (by omega) (by simp only [List.length_append]; omega), Option.bind_some, rdN]
  rfl
 rw [rdR, if_neg hne, hN, Option.bind_some]
 simp only [List.getD_cons_zero, List.getD_cons_succ, Int.toNat_natCast]
 rw [if_neg (by omega),if_neg (by simp only [List.length_append];omega),if_neg (by simp only [List.length_append];omega)]
 have hk : s.last.extract 0 (s.sh r.f0) ++ strOfNums (((bytesOf r.f0).drop (s.sh r.f0) ++ (bytesOf r.f1 ++ rest)).take (r.f0.size - s.sh r.f0)) = r.f0:=by
  apply bytesOf_inj
  rw [bytesOf_app,bytesOf_to,ht,List.take_left' hdl,bytesOf_strOf ((bytesOf_bytes _).drop _),List.take_append_drop]
 rw [hk]
 congr 1
 ·rw [← List.append_assoc, List.drop_left' (by rw [List.length_append]; omega)]
 ·congr 2
  rw [← List.append_assoc, List.take_left' (by rw [List.length_append]; omega), List.drop_left' hdl, strOf_bytesOf]
theorem rdR_chunks : ∀ (l : List S136) (s : St) (acc : List S136) (f : Nat),(∀ r ∈ l,Fit r) → (chunks s l).length ≤ f → rdR f (chunks s l) s.last acc = some (acc ++ l)
 | [], s, acc, f, _, _ => by
  simp only [chunks, List.append_nil]
  cases f with
  | zero => rfl
  | succ f => rw [rdR, if_pos rfl]
 | r :: t, s, acc, f, hf, hl => by
  rw [chunks] at hl ⊢
  have hr := hf r (by simp)
  have := put_pos (n := s.sh r.f0) (by have := (sh_le s r.f0).2; have := hr.1; omega)
  rw [List.length_append] at hl
  have hc : 1 ≤ (chunk s r).length := by simp only [chunk, List.length_append]; omega
  obtain ⟨f, rfl⟩ : ∃ f', f = f' + 1 := ⟨f - 1, by omega⟩
  rw [rdR_chunk s r _ _ _ hr]
  have := rdR_chunks t (addT s r.f0 r.f1) (acc ++ [r]) f (fun q hq => hf q (by simp [hq])) (by omega)
  rw [show (addT s r.f0 r.f1).last = r.f0 from rfl] at this
  rw [this, List.append_assoc, List.singleton_append]
theorem eqB_refl (l : List Int) : eqB l l = true := by unfold eqB; exact beq_self_eq_true _
theorem addAll_false : ∀ (l : List S136) (s : St), addAll l (false, s) = (false, s)
 | [], _ => rfl
 | r :: t, s => by rw [addAll]; exact addAll_false t s
theorem addAll_true : ∀ (l : List S136) (s : St), (addAll l (true, s)).1 = true → addAll l (true, s) = (true, addTs s l)
 | [], s, _ => rfl
 | r :: t, s, h => by
  rw [addAll] at h ⊢
  simp only [if_true] at h ⊢
  cases hb : addB s r.f0 with
  | false => rw [hb] at h; simp only [if_false, Bool.false_eq_true] at h; rw [addAll_false] at h; cases h
  | true =>
   rw [hb] at h
   simp only [if_true] at h ⊢
   rw [addAll_true t _ h, addTs]
theorem readS_out (l : List S136) (hf : ∀ r ∈ l,Fit r) (ha : (addAll l (true,St0)).1 = true) (hp : (addTs St0 l).p.length < 4294967296) : readS (addTs St0 l).out = some l:=by
 have hb : (addTs St0 l).b = chunks St0 l := by rw [addTs_b]; rfl
 have hp4 := addTs_p St0 l rfl
 obtain ⟨s, hs⟩ : ∃ s, s = addTs St0 l := ⟨_, rfl⟩
 rw [← hs] at hb hp hp4 ⊢
 have hlen : s.out.length = s.b.length + s.p.length + 4 := by simp only [St.out, List.length_append, fix_length]
 have hcnt : cnt s.out = s.p.length / 4 := by
  unfold cnt
  rw [hlen,show s.b.length + s.p.length + 4 - 4 = (s.b ++ s.p).length by rw [List.length_append];omega,St.out,List.drop_left,List.take_of_length_le (by rw [fix_length];omega),val256_fix]
  exact Nat.mod_eq_of_lt (by omega)
 have he : s.out.length - 4 * (cnt s.out + 1) = s.b.length := by rw [hcnt, hlen]; omega
 have hro : rowsOf s.out = some l := by
  rw [rowsOf, he, St.out, List.append_assoc, List.take_left, hb]
  have := rdR_chunks l St0 [] _ hf (Nat.le_refl _)
  rw [List.nil_append] at this
  exact this
 rw [readS, if_neg (by omega), if_neg (by rw [hcnt, hlen]; omega), hro]
 simp only [Option.getD_some, Option.isSome_some]
 rw [addAll_true l St0 ha, ← hs, if_pos ⟨rfl, eqB_refl _⟩]
end Go.Proofs.Ytenmljkddhonmaa.QTbl

namespace Go.Proofs.Ytenmljkddhonmaa.MTbl
open Go.RowKit Go.Proofs.Ytenmljkddhonmaa.QTbl Go.Proofs.YtenmljkddhonmaaW.PrintWords Go.Proofs.YtenmljkddhonmaaW.PrintLast Go.Proofs.YtenmljkddhonmaaW.PrintMore
set_option linter.unusedVariables false
set_option linter.unusedSimpArgs false
/-! PURE: how entries are laid into blocks -/
/-- A builder that took these entries. -/
def stOf (c : List S28) : St := addTs St0 (c.map rowOf)
def blk (c : List S28) : List Int := (stOf c).out
def szB (s : St) : Nat := s.b.length + s.p.length + 4
theorem out_length (s : St) : s.out.length = szB s := by simp only [St.out, List.length_append, fix_length, szB]
/-- The blocks' entries; cur: what the builder has. -/
def cutB : List S28 → List S28 → List (List S28)
 | _, [] => []
 | cur, x :: t => if 200 ≤ szB (stOf (cur ++ [x])) ∨ t = [] then (cur ++ [x]) :: cutB [] t else cutB (cur ++ [x]) t
theorem cutB_flat : ∀ (l cur : List S28), l ≠ [] → (cutB cur l).flatten = cur ++ l
 | [], _, h => absurd rfl h
 | [x], cur, _ => by simp [cutB]
 | x :: y :: t, cur, _ => by
  unfold cutB
  split
  ·rw [List.flatten_cons, cutB_flat (y :: t) [] (by simp)]; simp
  ·rw [cutB_flat (y :: t) (cur ++ [x]) (by simp)]; simp
theorem cutB_pos (l : List S28) (h : l ≠ []) : 1 ≤ (cutB [] l).length := by
 cases hc : cutB [] l with
 | nil => have := cutB_flat l [] h; rw [hc] at this; simp at this; exact absurd this h
 | cons a b => simp
theorem cutB_length_le (l cur : List S28) : (cutB cur l).length ≤ l.length := by
 induction l generalizing cur with
 | nil => simp [cutB]
 | cons x t ih =>
  unfold cutB
  split
  ·simp only [List.length_cons]; have := ih []; omega
  ·simp only [List.length_cons]; have := ih (cur ++ [x]); omega
/-- What a block holds was laid out of the sorted entries: each chunk is a run of them. -/
theorem cutB_mem {l : List S28} {c : List S28} {x : S28} (hl : l ≠ []) (hc : c ∈ cutB [] l) (hx : x ∈ c) : x ∈ l := by
 have := cutB_flat l [] hl
 rw [List.nil_append] at this
 rw [← this]
 exact List.mem_flatten.2 ⟨c, hc, hx⟩
theorem cutB_sorted {l : List S28} {R : S28 → S28 → Prop} (hl : l ≠ []) (hs : l.Pairwise R) {c : List S28} (hc : c ∈ cutB [] l) : c.Pairwise R:=by
 have := cutB_flat l [] hl
 rw [List.nil_append] at this
 rw [← this] at hs
 exact (List.pairwise_flatten.1 hs).1 c hc
theorem addAll_ok : ∀ (c : List S28) (s : St),c.Pairwise srtR → (∀ x ∈ c,okK x) → (s.rows = 0 ∨ ∀ x ∈ c,Op.bytesLess s.last.toList (keyS x).toList = true) → (addAll (c.map rowOf) (true,s)).1 = true
 | [], _, _, _, _ => rfl
 | x :: t, s, hp, ho, hs => by
  obtain ⟨h1, h2⟩ := List.pairwise_cons.1 hp
  have hb : addB s (rowOf x).f0 = true := by
   unfold addB
   rcases hs with h | h
   ·rw [h]; rfl
   ·rw [show Op.bytesLess s.last.toList (rowOf x).f0.toList = true from h x (List.mem_cons_self ..), Bool.or_true]
  rw [List.map_cons]
  unfold addAll
  simp only [if_true, hb]
  refine addAll_ok t _ h2 (fun y hy => ho y (List.mem_cons_of_mem _ hy)) (.inr (fun y hy => ?_))
  exact keyS_lt (ho x (List.mem_cons_self ..)) (ho y (List.mem_cons_of_mem _ hy)) (h1 y hy).1
theorem valS_le {e : S28} (h : okB e) : (valS e).size ≤ 2010 := by
 have h1 := valS_size h.2.1
 have h2 := put_length10 (n := e.f3.size) (by have := h.2.1; omega)
 have h3 := h.2.1
 have h4 := h.2.2
 omega
theorem keyS_le {e : S28} (h : okK e) : (keyS e).size ≤ 71 := by
 have := keyL_length (e := e)
 rw [keyS_size]
 have := h.2.2
 omega
theorem addTs_bounds : ∀ (c : List S28) (s : St),(∀ x ∈ c,okB x) → (addTs s (c.map rowOf)).b.length ≤ s.b.length + 2200 * c.length∧(addTs s (c.map rowOf)).p.length ≤ s.p.length + 4 * c.length∧(addTs s (c.map rowOf)).rows = s.rows + c.length
 | [], s, _ => by simp [addTs]
 | x :: t, s, h => by
  have hx := h x (List.mem_cons_self ..)
  have hk := keyS_le hx.1
  have hv := valS_le hx
  obtain ⟨a1,a2,a3,_⟩:=addT_bounds s (rowOf x).f0 (rowOf x).f1 (by show (keyS x).size < 1000000;omega) (by show (valS x).size < 1000000;omega)
  obtain ⟨b1,b2,b3⟩:=addTs_bounds t (addT s (rowOf x).f0 (rowOf x).f1) (fun y hy=>h y (List.mem_cons_of_mem _ hy))
  have e0 : (rowOf x).f0.size ≤ 71 := hk
  have e1 : (rowOf x).f1.size ≤ 2010 := hv
  rw [List.map_cons]
  simp only [addTs, List.length_cons]
  omega
theorem blk_read {c : List S28} (hs : c.Pairwise srtR) (ho : ∀ x ∈ c,okB x) (hc : c.length ≤ 1000) : readS (blk c) = some (c.map rowOf):=by
 refine readS_out _ (fun r hr => ?_) (addAll_ok c St0 hs (fun x hx => (ho x hx).1) (.inl rfl)) ?_
 ·obtain ⟨x, hx, rfl⟩ := List.mem_map.1 hr
  have hk := keyS_le (ho x hx).1
  have hv := valS_le (ho x hx)
  exact ⟨by show (keyS x).size ≤ 30000; omega, by show (valS x).size ≤ 30000; omega⟩
 ·have := (addTs_bounds c St0 ho).2.1
  have e : St0.p.length = 0 := rfl
  omega
end Go.Proofs.Ytenmljkddhonmaa.MTbl

namespace Go.Proofs.Ytenmljkddhonmaa.MTbl
open Go.RowKit Go.Proofs.Ytenmljkddhonmaa.QTbl Go.Proofs.YtenmljkddhonmaaW.PrintWords Go.Proofs.YtenmljkddhonmaaW.PrintLast Go.Proofs.YtenmljkddhonmaaW.PrintMore
set_option linter.unusedVariables false
set_option linter.unusedSimpArgs false
/-! PURE: a block's length, and that it is of bytes -/
theorem addTs_app : ∀ (a b : List S136) (s : St), addTs s (a ++ b) = addTs (addTs s a) b
 | [], _, _ => rfl
 | x :: t, b, s => by rw [List.cons_append]; simp only [addTs]; exact addTs_app t b _
theorem stOf_snoc (c : List S28) (x : S28) : stOf (c ++ [x]) = addT (stOf c) (keyS x) (valS x) := by
 unfold stOf
 rw [List.map_append, addTs_app]; rfl
theorem szB_snoc {c : List S28} {x : S28} (hx : okB x) : szB (stOf (c ++ [x])) ≤ szB (stOf c) + 2200 := by
 rw [stOf_snoc]
 have hk := keyS_le hx.1
 have hv := valS_le hx
 obtain ⟨a1, a2, _, _⟩ := addT_bounds (stOf c) (keyS x) (valS x) (by omega) (by omega)
 unfold szB
 omega
theorem cutB_size : ∀ (l cur : List S28),(∀ x ∈ l,okB x) → szB (stOf cur) < 200 → ∀ c ∈ cutB cur l,szB (stOf c) < 2400
 | [], _, _, _, c, h => by simp [cutB] at h
 | x :: t, cur, ho, hs, c, h => by
  have hx := ho x (List.mem_cons_self ..)
  have ht : ∀ y ∈ t, okB y := fun y hy => ho y (List.mem_cons_of_mem _ hy)
  have h0 : szB (stOf []) < 200 := by show 0 + 0 + 4 < 200; decide
  unfold cutB at h
  split at h
  ·rcases List.mem_cons.1 h with rfl | h
   ·have := szB_snoc (c := cur) hx; omega
   ·exact cutB_size t [] ht h0 c h
  ·next hn =>
   exact cutB_size t (cur ++ [x]) ht (by omega) c h
theorem blk_length {l c : List S28} (ho : ∀ x ∈ l, okB x) (hc : c ∈ cutB [] l) : (blk c).length < 2400 := by
 unfold blk
 rw [out_length]
 exact cutB_size l [] ho (by show 0 + 0 + 4 < 200; decide) c hc
theorem addTs_bytes : ∀ (c : List S28) (s : St),(∀ x ∈ c,okB x) → Bytes s.b → Bytes s.p → Bytes (addTs s (c.map rowOf)).b∧Bytes (addTs s (c.map rowOf)).p
 | [], s, _, h1, h2 => ⟨h1, h2⟩
 | x :: t, s, ho, h1, h2 => by
  have hx := ho x (List.mem_cons_self ..)
  have hk := keyS_le hx.1
  have hv := valS_le hx
  rw [List.map_cons]
  simp only [addTs]
  have hsh : s.sh (keyS x) ≤ 71 := by
   unfold St.sh
   split
   ·omega
   ·have := (cpl_le (bytesOf s.last) (bytesOf (keyS x))).2
    rw [bytesOf_length] at this; omega
  refine addTs_bytes t _ (fun y hy => ho y (List.mem_cons_of_mem _ hy)) ?_ ?_
  ·show Bytes (s.b ++ (put (s.sh (keyS x)) ++ put ((keyS x).size - s.sh (keyS x)) ++ put (valS x).size) ++ (bytesOf (keyS x)).drop (s.sh (keyS x)) ++ bytesOf (valS x))
   exact Bytes.append (Bytes.append (Bytes.append h1 (Bytes.append (Bytes.append (put_bytes (by omega)) (put_bytes (by omega))) (put_bytes (by omega)))) ((bytesOf_bytes _).drop _)) (bytesOf_bytes _)
  ·show Bytes (if s.rows % 4 = 0 then s.p ++ fix s.b.length 4 else s.p)
   split
   ·exact Bytes.append h2 (fix_bytes _ _)
   ·exact h2
theorem blk_bytes {c : List S28} (ho : ∀ x ∈ c, okB x) : Bytes (blk c) := by
 obtain ⟨h1, h2⟩ := addTs_bytes c St0 ho (by intro c hc; cases hc) (by intro c hc; cases hc)
 unfold blk stOf
 show Bytes (_ ++ _ ++ fix _ 4)
 exact Bytes.append (Bytes.append h1 h2) (fix_bytes _ _)
end Go.Proofs.Ytenmljkddhonmaa.MTbl

namespace Go.Proofs.Ytenmljkddhonmaa.QCrc
open Go.RowKit Go.Proofs.Ytenmljkddhonmaa.MTbl Go.Proofs.Ytenmljkddhonmaa.QTbl Go.Proofs.YtenmljkddhonmaaW.PrintWords Go.Proofs.YtenmljkddhonmaaW.PrintLast Go.Proofs.YtenmljkddhonmaaW.PrintMore
set_option linter.unusedVariables false
set_option linter.unusedSimpArgs false
theorem bits_xor_nat (k : IntKind) (hk : ∀ n : Int,0 ≤ n → n < 2 ^ k.bits → k.wrap n = n) (a b : Nat) (ha : a < 2 ^ k.bits) (hb : b < 2 ^ k.bits) : Go.bits .xor k a b = ((a ^^^ b : Nat) : Int):=by
 have ha' : a % 2 ^ k.bits = a := Nat.mod_eq_of_lt ha
 have hb' : b % 2 ^ k.bits = b := Nat.mod_eq_of_lt hb
 simp only [Go.bits, BitVec.ofInt_natCast, BitVec.toNat_xor, BitVec.toNat_ofNat, ha', hb']
 exact hk _ (Int.natCast_nonneg _) (by exact_mod_cast Nat.xor_lt_two_pow ha hb)
theorem u32w (n : Int) (h0 : 0 ≤ n) (h1 : n < 2 ^ 32) : IntKind.u32.wrap n = n := by rw [IntKind.wrap_u32]; omega
theorem u8w (n : Int) (h0 : 0 ≤ n) (h1 : n < 2 ^ 8) : IntKind.u8.wrap n = n := by rw [IntKind.wrap_u8]; omega
theorem xor32 {a b : Nat} (ha : a < 4294967296) (hb : b < 4294967296) : Go.bits .xor .u32 (a : Int) (b : Int) = ((a ^^^ b : Nat) : Int):=bits_xor_nat .u32 u32w a b ha hb
theorem xor8 {a b : Nat} (ha : a < 256) (hb : b < 256) : Go.bits .xor .u8 (a : Int) (b : Int) = ((a ^^^ b : Nat) : Int):=bits_xor_nat .u8 u8w a b ha hb
theorem and32 {a b : Nat} (ha : a < 4294967296) (hb : b < 4294967296) : Go.bits .and .u32 (a : Int) (b : Int) = ((a &&& b : Nat) : Int):=(bits_nat .u32 32 (by decide) u32w a b ha hb).1
theorem xor_lt {a b : Nat} (ha : a < 4294967296) (hb : b < 4294967296) : a ^^^ b < 4294967296:=Nat.xor_lt_two_pow (n:=32) ha hb

def poly : Nat := 2197175160
/-- One bit of the sum. -/
def sb (x : Nat) : Nat := (x / 2) ^^^ (if x % 2 = 1 then poly else 0)
theorem sb_lt {x : Nat} (h : x < 4294967296) : sb x < 4294967296 := by
 unfold sb; refine xor_lt (by omega) ?_
 split <;> decide

theorem sb_mine {x : Nat} (h : x < 4294967296) : Go.bits .xor .u32 ((x : Int) / 2) (Go.bits .and .u32 2197175160 ((-(Go.bits .and .u32 (x : Int) 1)) % 4294967296)) = (sb x : Int):=by
 have e1 : Go.bits .and .u32 (x : Int) 1 = ((x % 2 : Nat) : Int) := by
  have := and32 (b := 1) h (by decide)
  rw [Nat.and_one_is_mod] at this
  exact this
 rw [e1, show ((x : Int) / 2) = ((x / 2 : Nat) : Int) by omega]
 unfold sb
 by_cases hp : x % 2 = 1
 ·rw [if_pos hp, hp, show ((-((1 : Nat) : Int)) % 4294967296) = ((4294967295 : Nat) : Int) by decide]
  have := and32 (a := 2197175160) (b := 4294967295) (by decide) (by decide)
  rw [show ((2197175160 : Nat) : Int) = 2197175160 by omega] at this
  rw [this, xor32 (by omega) (by decide)]
  rfl
 ·rw [if_neg hp, show x % 2 = 0 by omega, show ((-((0 : Nat) : Int)) % 4294967296) = ((0 : Nat) : Int) by decide]
  have := and32 (a := 2197175160) (b := 0) (by decide) (by decide)
  rw [show ((2197175160 : Nat) : Int) = 2197175160 by omega] at this
  rw [this, xor32 (by omega) (by decide)]
  rfl

def it : Nat → Nat → Nat
 | 0, x => x
 | n + 1, x => it n (sb x)
theorem it_lt : ∀ (n : Nat) {x : Nat}, x < 4294967296 → it n x < 4294967296
 | 0, _, h => h
 | n + 1, _, h => it_lt n (sb_lt h)

/-- The sum's state, with bytes behind it. -/
def fold (s : Nat) (l : List Int) : Nat := l.foldl (fun s v => it 8 (s ^^^ v.toNat)) s
theorem fold_append (s : Nat) (l m : List Int) : fold s (l ++ m) = fold (fold s l) m:=by unfold fold;rw [List.foldl_append]
theorem fold_lt : ∀ (l : List Int) {s : Nat}, Bytes l → s < 4294967296 → fold s l < 4294967296
 | [], _, _, h => h
 | c :: t, s, hb, h => by
  have hc := hb c (List.mem_cons_self ..)
  exact fold_lt t (fun x hx => hb x (List.mem_cons_of_mem _ hx)) (it_lt 8 (xor_lt h (by omega)))
theorem drop_getD (l : List Int) (i : Nat) (h : i < l.length) : l.drop i = l.getD i 0 :: l.drop (i + 1) := by
 rw [List.drop_eq_getElem_cons h, List.getD_eq_getElem?_getD, List.getElem?_eq_getElem h]; rfl

def neg (s : Nat) : Nat := 4294967295 ^^^ s
theorem neg_def (s : Nat) : neg s = 4294967295 ^^^ s := rfl
theorem xor_cancel (m s : Nat) : m ^^^ (m ^^^ s) = s := by rw [← Nat.xor_assoc, Nat.xor_self, Nat.zero_xor]
theorem neg_lt {s : Nat} (h : s < 4294967296) : neg s < 4294967296 := by rw [neg_def]; exact xor_lt (by omega) h
theorem neg_neg (s : Nat) : neg (neg s) = s := by rw [neg_def, neg_def, xor_cancel]
theorem fold_nil (s : Nat) : fold s [] = s := rfl
theorem neg_int {s : Nat} (h : s < 4294967296) : Go.bits .xor .u32 4294967295 (s : Int) = (neg s : Int) := by
 have := xor32 (a := 4294967295) (by omega) h
 rw [show ((4294967295 : Nat) : Int) = 4294967295 by omega] at this
 rw [neg_def]; exact this

theorem More_l0 (l : List Int) (hb : Bytes l) (hl : l.length ≤ 4611686018427387904) (d : Nat) : ∀ (i s : Nat),l.length - i = d → i ≤ l.length → s < 4294967296 → Ev (fun k=>crc_More.l0 k (s : Int) l (l.length : Int) (i : Int)) (neg (fold s (l.drop i)) : Int):=by
 induction d with
 | zero =>
  intro i s hd hi hs
  refine Ev.succ ?_
  simp only [crc_More.l0]
  refine Ev.ite_neg (by omega) ?_
  rw [List.drop_of_length_le (by omega)]
  rw [fold_nil, neg_int hs]
  exact Ev.now _
 | succ d ih =>
  intro i s hd hi hs
  have hlt : i < l.length := by omega
  have hg := hb.getD i
  refine Ev.succ ?_
  simp only [crc_More.l0]
  refine Ev.ite_pos (by omega) (Ev.ite_pos (by omega) (Ev.ite_pos (by omega) ?_))
  rw [rd_nat, drop_getD l i hlt]
  generalize l.getD i 0 = c at *
  obtain ⟨v, rfl⟩ := Int.eq_ofNat_of_zero_le hg.1
  rw [show (v : Int) % 4294967296 = ((v : Nat) : Int) by omega, xor32 hs (by omega)]
  have hin : ∀ (m j x : Nat),m + j = 8 → x < 4294967296 → it m x = it 8 (s ^^^ v) → Ev (fun k=>crc_More.l1 k (x : Int) l (l.length : Int) (i : Int) (j : Int)) (neg (fold (it 8 (s ^^^ v)) (l.drop (i + 1))) : Int):=by
   intro m
   induction m with
   | zero =>
    intro j x hj hx e
    refine Ev.succ ?_
    simp only [crc_More.l1]
    refine Ev.ite_neg (by omega) ?_
    rw [wrap64_id (by omega) (by omega), ← e]
    exact ih (i + 1) x (by omega) (by omega) hx
   | succ m ihm =>
    intro j x hj hx e
    refine Ev.succ ?_
    simp only [crc_More.l1]
    refine Ev.ite_pos (by omega) ?_
    rw [wrap64_id (by omega) (by omega), sb_mine hx]
    exact ihm (j + 1) (sb x) (by omega) (sb_lt hx) e
  exact hin 8 0 (s ^^^ v) rfl (xor_lt hs (by omega)) rfl

theorem More_ev {l : List Int} (hb : Bytes l) (hl : l.length ≤ 4611686018427387904) {c : Nat} (hc : c < 4294967296) : Ev (fun k=>crc_More.f k (c : Int) l) (neg (fold (neg c) l) : Int):=by
 have := More_l0 l hb hl _ 0 (neg c) rfl (by omega) (neg_lt hc)
 unfold crc_More.f
 rw [neg_int hc]
 exact this

def sum (l : List Int) : Nat := neg (fold 4294967295 l)
theorem Sum_ev {l : List Int} (hb : Bytes l) (hl : l.length ≤ 4611686018427387904) : Ev (fun k=>crc_Sum.f k l) (sum l : Int):=by
 have := More_ev hb hl (c := 0) (by decide)
 unfold crc_Sum.f
 exact Ev.bind this (Ev.now _)
theorem sum_lt {l : List Int} (hb : Bytes l) : sum l < 4294967296 := neg_lt (fold_lt l hb (by decide))

theorem xor_zero_eq {x y : Nat} (h : x ^^^ y = 0) : x = y := by
 have := congrArg (· ^^^ y) h
 simpa only [Nat.xor_assoc, Nat.xor_self, Nat.xor_zero, Nat.zero_xor] using this
theorem sb_xor (x y : Nat) : sb (x ^^^ y) = sb x ^^^ sb y := by
 unfold sb
 have h2 : (x ^^^ y) / 2 = x / 2 ^^^ y / 2 := by
  have := Nat.shiftRight_xor_distrib (a := x) (b := y) (i := 1)
  simpa [Nat.shiftRight_eq_div_pow] using this
 have hm : (x ^^^ y) % 2 = (x % 2 + y % 2) % 2 := by
  have h := @Nat.xor_mod_two_eq_one x y
  omega
 rw [h2, hm]
 rcases Nat.mod_two_eq_zero_or_one x with hx | hx <;> rcases Nat.mod_two_eq_zero_or_one y with hy | hy <;> simp only [hx,hy] <;> simp
 ·rw [Nat.xor_assoc]
 ·rw [Nat.xor_assoc, Nat.xor_comm (y / 2) poly, ← Nat.xor_assoc]
 ·rw [Nat.xor_assoc, ← Nat.xor_assoc poly, Nat.xor_comm poly, Nat.xor_assoc (y / 2), Nat.xor_self, Nat.xor_zero]

theorem sb_zero_inv {z : Nat} (hz : z < 4294967296) (h : sb z = 0) : z = 0 := by
 unfold sb at h
 have h' := xor_zero_eq h
 by_cases hp : z % 2 = 1
 ·rw [if_pos hp] at h'; unfold poly at h'; omega
 ·rw [if_neg hp] at h'; omega

theorem it_xor : ∀ (n x y : Nat), it n (x ^^^ y) = it n x ^^^ it n y
 | 0, _, _ => rfl
 | n + 1, x, y => by simp only [it]; rw [sb_xor, it_xor n]
theorem it_zero_inv : ∀ (n : Nat) {z : Nat}, z < 4294967296 → it n z = 0 → z = 0
 | 0, _, _, h => h
 | n + 1, _, hz, h => sb_zero_inv hz (it_zero_inv n (sb_lt hz) h)

theorem fold_inj : ∀ (l : List Int) {s t : Nat}, Bytes l → s < 4294967296 → t < 4294967296 → fold s l = fold t l → s = t
 | [], _, _, _, _, _, h => h
 | c :: r, s, t, hb, hs, ht, h => by
  have hc := hb c (List.mem_cons_self ..)
  have hx : ∀ x, x < 4294967296 → it 8 (x ^^^ c.toNat) < 4294967296 := fun x hx => it_lt 8 (xor_lt hx (by omega))
  have e := fold_inj r (fun x hx => hb x (List.mem_cons_of_mem _ hx)) (hx s hs) (hx t ht) h
  have e2 : it 8 (s ^^^ t) = 0 := by
   rw [it_xor] at e ⊢
   rw [it_xor 8 t] at e
   have := congrArg (· ^^^ it 8 c.toNat) e
   simp only [Nat.xor_assoc, Nat.xor_self, Nat.xor_zero] at this
   rw [this, Nat.xor_self]
  exact xor_zero_eq (it_zero_inv 8 (xor_lt hs ht) e2)

/-- Two equal lists of changes differ by a word that goes through the bits. -/
def word : List Nat → Nat
 | [] => 0
 | x :: t => x ^^^ (word t * 256)

theorem word_lt : ∀ (l : List Nat), (∀ x ∈ l, x < 256) → word l < 256 ^ l.length
 | [], _ => by simp [word]
 | x :: t, h => by
  have h1 := word_lt t (fun y hy => h y (List.mem_cons_of_mem _ hy))
  have hx := h x (List.mem_cons_self ..)
  simp only [word, List.length_cons]
  have e : (256 : Nat) ^ (t.length + 1) = 2 ^ (8 * (t.length + 1)) := by rw [Nat.pow_mul]
  rw [e]
  refine Nat.xor_lt_two_pow ?_ ?_
  ·exact Nat.lt_of_lt_of_le hx (by rw [← e, Nat.pow_succ]; exact Nat.le_mul_of_pos_left _ (Nat.pow_pos (by decide)))
  ·rw [← e, Nat.pow_succ]; exact Nat.mul_lt_mul_of_pos_right h1 (by decide)

theorem sb_double {y : Nat} : sb (y * 2) = y := by
 unfold sb; rw [if_neg (by omega), Nat.xor_zero]; omega
theorem it8_shift (w : Nat) : it 8 (w * 256) = w := by
 have : w * 256 = w * 2 * 2 * 2 * 2 * 2 * 2 * 2 * 2 := by omega
 rw [this]
 simp only [it, sb_double]

theorem it_add : ∀ (n m x : Nat), it (n + m) x = it m (it n x)
 | 0, m, x => by rw [Nat.zero_add]; rfl
 | n + 1, m, x => by rw [show n + 1 + m = (n + m) + 1 by omega]; simp only [it]; exact it_add n m (sb x)

/-- The differences of the states, change for change. -/
def diff (d : Nat) (xs : List Nat) : Nat := xs.foldl (fun d x => it 8 (d ^^^ x)) d
theorem diff_word : ∀ (xs : List Nat) (d : Nat), diff d xs = it (8 * xs.length) (d ^^^ word xs)
 | [], d => by simp [diff, word, it]
 | x :: t, d => by
  have h := diff_word t (it 8 (d ^^^ x))
  have e : diff d (x :: t) = diff (it 8 (d ^^^ x)) t := rfl
  rw [e, h]
  simp only [word, List.length_cons]
  rw [show 8 * (t.length + 1) = 8 + 8 * t.length by omega, it_add, ← Nat.xor_assoc, it_xor 8 (d ^^^ x), it8_shift]

theorem word_zero : ∀ (l : List Nat), (∀ x ∈ l, x < 256) → word l = 0 → ∀ x ∈ l, x = 0
 | [], _, _ => by intro x hx; cases hx
 | y :: t, h, hw => by
  simp only [word] at hw
  have hy := h y (List.mem_cons_self ..)
  have e := xor_zero_eq hw
  have hy0 : y = 0 := by omega
  have ht : word t = 0 := by omega
  intro x hx
  rcases List.mem_cons.1 hx with rfl | hx
  ·exact hy0
  ·exact word_zero t (fun y hy => h y (List.mem_cons_of_mem _ hy)) ht x hx

theorem diff_ne {xs : List Nat} (hl : xs.length ≤ 4) (hb : ∀ x ∈ xs,x < 256) (hn : ∃ x ∈ xs,x ≠ 0) : diff 0 xs ≠ 0:=by
 intro h
 rw [diff_word, Nat.zero_xor] at h
 have hw : word xs < 4294967296 := Nat.lt_of_lt_of_le (word_lt xs hb) (by
  have := Nat.pow_le_pow_right (show 0 < 256 by decide) hl
  exact Nat.le_trans this (by decide))
 obtain ⟨x, hx, hx0⟩ := hn
 exact hx0 (word_zero xs hb (it_zero_inv _ hw h) x hx)

/-- The bytes xs changed by ys. -/
def turn : List Int → List Nat → List Int
 | c :: t, y :: r => ((c.toNat ^^^ y : Nat) : Int) :: turn t r
 | l, [] => l
 | [], _ => []

theorem fold_turn : ∀ (ys : List Nat) (l : List Int) (s d : Nat),ys.length ≤ l.length → fold (s ^^^ d) (turn l ys) = fold (fold s (l.take ys.length) ^^^ diff d ys) (l.drop ys.length)
 | [], l, s, d, _ => by cases l <;> simp [turn, diff, fold]
 | y :: r, [], _, _, h => by simp at h
 | y :: r, c :: t, s, d, h => by
  have ih := fold_turn r t (it 8 (s ^^^ c.toNat)) (it 8 (d ^^^ y)) (by simpa using h)
  simp only [turn, List.length_cons, List.take_succ_cons, List.drop_succ_cons]
  have e1 : fold (s ^^^ d) (((c.toNat ^^^ y : Nat) : Int) :: turn t r) = fold (it 8 ((s ^^^ d) ^^^ (c.toNat ^^^ y))) (turn t r):=by simp [fold]
  have e2 : it 8 ((s ^^^ d) ^^^ (c.toNat ^^^ y)) = it 8 (s ^^^ c.toNat) ^^^ it 8 (d ^^^ y) := by
   rw [← it_xor]
   congr 1
   rw [Nat.xor_assoc, Nat.xor_assoc, ← Nat.xor_assoc d, Nat.xor_comm d c.toNat, Nat.xor_assoc c.toNat]
  rw [e1, e2, ih]
  rfl

/-- Up to four bytes that are changed behind one another change the sum. -/
theorem sum_turn_ne {a l : List Int} {ys : List Nat} (ha : Bytes a) (hb : Bytes l) (hl : ys.length ≤ 4) (hy : ∀ y ∈ ys,y < 256) (hn : ∃ y ∈ ys,y ≠ 0) (hle : ys.length ≤ l.length) : sum (a ++ l) ≠ sum (a ++ turn l ys):=by
 intro h
 unfold sum at h
 have h1 := congrArg neg h
 rw [neg_neg, neg_neg, fold_append, fold_append] at h1
 have hs := fold_lt a ha (s := 4294967295) (by decide)
 generalize fold 4294967295 a = s at *
 have e := fold_turn ys l s 0 hle
 rw [Nat.xor_zero] at e
 rw [e] at h1
 have e3 : fold s l = fold (fold s (l.take ys.length)) (l.drop ys.length):=by rw [← fold_append,List.take_append_drop]
 rw [e3] at h1
 have h2 := fold_lt (l.take ys.length) (hb.take _) hs
 have hd : diff 0 ys < 4294967296 := by
  rw [diff_word, Nat.zero_xor]
  refine it_lt _ (Nat.lt_of_lt_of_le (word_lt ys hy) ?_)
  exact Nat.le_trans (Nat.pow_le_pow_right (show 0 < 256 by decide) hl) (by decide)
 have h4 := fold_inj _ (fun c hc => hb c (List.mem_of_mem_drop hc)) h2 (xor_lt h2 hd) h1
 have h5 : diff 0 ys = 0 := by
  have := congrArg (fold s (l.take ys.length) ^^^ ·) h4
  simp only [Nat.xor_self, ← Nat.xor_assoc, Nat.zero_xor] at this
  exact this.symm
 exact diff_ne hl hy hn h5
end Go.Proofs.Ytenmljkddhonmaa.QCrc

namespace Go.Proofs.Ytenmljkddhonmaa.MTbl
open Go.RowKit Go.Proofs.Ytenmljkddhonmaa.QTbl Go.Proofs.YtenmljkddhonmaaW.PrintWords Go.Proofs.YtenmljkddhonmaaW.PrintLast Go.Proofs.YtenmljkddhonmaaW.PrintMore
set_option linter.unusedVariables false
set_option linter.unusedSimpArgs false
/-! PURE: a table's bytes -/
theorem Put64_ev {n : Nat} (h : n < 18446744073709551616) : Ev (fun k => varint_Put64.f k (n : Int)) (fix n 8) := by
 unfold varint_Put64.f
 exact Ev.bind (fixed_ev n 8 (by omega)) (Ev.now _)
theorem Get64_ev {l : List Int} (hb : Bytes l) (hl : 8 ≤ l.length) : Ev (fun k=>varint_Get64.f k l) (val256 (l.take 8) : Int):=by
 unfold varint_Get64.f
 exact Ev.bind (read_ev (m := 8) (by omega) hb hl) (Ev.now _)
def rowsB (l : List S28) : List Int := (cutB [] l).flatMap blk
def sizesB (l : List S28) : List Int := (cutB [] l).flatMap (fun c => put (blk c).length)
def tailB (l : List S28) (flt : List Int) : List Int := put (cutB [] l).length ++ sizesB l ++ flt
def bodyB (l : List S28) (flt : List Int) : List Int:=fix (8 + (rowsB l).length + (tailB l flt).length + 12) 8 ++ rowsB l ++ tailB l flt ++ fix (tailB l flt).length 4
def tblB (l : List S28) (flt : List Int) : List Int := bodyB l flt ++ fix (QCrc.sum (bodyB l flt)) 4 ++ fix 1768842089 4
theorem bodyB_length (l : List S28) (flt : List Int) : (bodyB l flt).length = 8 + (rowsB l).length + (tailB l flt).length + 4:=by
 unfold bodyB
 simp only [List.length_append, fix_length]
theorem tblB_length (l : List S28) (flt : List Int) : (tblB l flt).length = 8 + (rowsB l).length + (tailB l flt).length + 12:=by
 unfold tblB
 simp only [List.length_append, fix_length, bodyB_length]
theorem flatMap_length_le {α : Type} (f : α → List Int) (m : Nat) : ∀ (L : List α),(∀ c ∈ L,(f c).length ≤ m) → (L.flatMap f).length ≤ L.length * m
 | [], _ => by simp
 | c :: t, h => by
  have ih := flatMap_length_le f m t (fun d hd => h d (List.mem_cons_of_mem _ hd))
  have hc := h c (List.mem_cons_self ..)
  rw [List.flatMap_cons, List.length_append, List.length_cons, Nat.succ_mul]
  omega
theorem Bytes.flatMap {α : Type} (f : α → List Int) : ∀ (L : List α), (∀ c ∈ L, Bytes (f c)) → Bytes (L.flatMap f)
 | [], _ => by intro c hc; cases hc
 | c :: t, h => by
  rw [List.flatMap_cons]
  exact Bytes.append (h c (List.mem_cons_self ..)) (Bytes.flatMap f t (fun d hd => h d (List.mem_cons_of_mem _ hd)))
theorem rowsB_length {l : List S28} (hl : l.length ≤ 1000) (ho : ∀ x ∈ l, okB x) : (rowsB l).length ≤ 2400000 := by
 have h1 := flatMap_length_le blk 2400 (cutB [] l) (fun c hc => Nat.le_of_lt (blk_length ho hc))
 have h2 := cutB_length_le l []
 have h3 := Nat.mul_le_mul_right 2400 (Nat.le_trans h2 hl)
 unfold rowsB
 omega
theorem tblB_bytes {l : List S28} {flt : List Int} (hl : l ≠ []) (hl2 : l.length ≤ 1000) (ho : ∀ x ∈ l,okB x) (hf : Bytes flt) : Bytes (bodyB l flt)∧Bytes (tblB l flt):=by
 have h0 : Bytes (rowsB l) := Bytes.flatMap _ _ (fun c hc => blk_bytes (fun x hx => ho x (cutB_mem hl hc hx)))
 have h1 : Bytes (sizesB l) := Bytes.flatMap _ _ (fun c hc => put_bytes (by have := blk_length ho hc; omega))
 have h2 := cutB_length_le l []
 have h3 : Bytes (tailB l flt) := Bytes.append (Bytes.append (put_bytes (by omega)) h1) hf
 have h4 : Bytes (bodyB l flt) := Bytes.append (Bytes.append (Bytes.append (fix_bytes _ _) h0) h3) (fix_bytes _ _)
 exact ⟨h4, Bytes.append (Bytes.append h4 (fix_bytes _ _)) (fix_bytes _ _)⟩
end Go.Proofs.Ytenmljkddhonmaa.MTbl

namespace Go.Proofs.Ytenmljkddhonmaa.MTbl
open Go.RowKit Go.Proofs.Ytenmljkddhonmaa.QTbl Go.Proofs.YtenmljkddhonmaaW.PrintWords Go.Proofs.YtenmljkddhonmaaW.PrintLast Go.Proofs.YtenmljkddhonmaaW.PrintMore
set_option linter.unusedVariables false
set_option linter.unusedSimpArgs false
/-! PURE: what Open asks first -/
/-- The length's field, the mark and the sum are right. -/
def firstOK (b : List Int) : Prop:=20 ≤ b.length∧val256 (b.take 8) = b.length∧val256 ((b.drop (b.length - 4)).take 4) = 1768842089∧val256 ((b.drop (b.length - 8)).take 4) = QCrc.sum (b.take (b.length - 8))
theorem tblB_body (l : List S28) (flt : List Int) : (tblB l flt).take ((tblB l flt).length - 8) = bodyB l flt := by
 rw [tblB_length]
 unfold tblB
 rw [List.append_assoc]
 exact List.take_left' (by rw [bodyB_length]; omega)
theorem tblB_sum (l : List S28) (flt : List Int) : (tblB l flt).drop ((tblB l flt).length - 8) = fix (QCrc.sum (bodyB l flt)) 4 ++ fix 1768842089 4:=by
 rw [tblB_length]
 unfold tblB
 rw [List.append_assoc]
 exact List.drop_left' (by rw [bodyB_length]; omega)
theorem tblB_mark (l : List S28) (flt : List Int) : (tblB l flt).drop ((tblB l flt).length - 4) = fix 1768842089 4 := by
 rw [tblB_length]
 unfold tblB
 exact List.drop_left' (by rw [List.length_append, bodyB_length, fix_length]; omega)
theorem tblB_head (l : List S28) (flt : List Int) : (tblB l flt).take 8 = fix (tblB l flt).length 8 := by
 rw [tblB_length]
 unfold tblB bodyB
 simp only [List.append_assoc]
 exact List.take_left' (by rw [fix_length])
theorem tblB_first {l : List S28} {flt : List Int} (hb : Bytes (bodyB l flt)) (hl : (tblB l flt).length < 4294967296) : firstOK (tblB l flt):=by
 refine ⟨by rw [tblB_length]; omega, ?_, ?_, ?_⟩
 ·rw [tblB_head, val256_fix]
  exact Nat.mod_eq_of_lt (by omega)
 ·rw [tblB_mark, List.take_of_length_le (by rw [fix_length]; omega), val256_fix]
 ·rw [tblB_sum, tblB_body, List.take_left' (by rw [fix_length]), val256_fix]
  have := QCrc.sum_lt hb
  exact Nat.mod_eq_of_lt (by omega)
/-- Cut off: the length's field is wrong, or there is not even that. -/
theorem first_cut {b : List Int} {n : Nat} (h : firstOK b) (hn : n < b.length) : ¬ firstOK (b.take n) := by
 intro h2
 obtain ⟨a1, a2, _, _⟩ := h
 obtain ⟨b1, b2, _, _⟩ := h2
 rw [List.length_take, Nat.min_eq_left (by omega)] at b1 b2
 rw [List.take_take, Nat.min_eq_left (by omega), a2] at b2
 omega
end Go.Proofs.Ytenmljkddhonmaa.MTbl

namespace Go.Proofs.Ytenmljkddhonmaa.MTbl
open Go.RowKit Go.Proofs.Ytenmljkddhonmaa.QTbl Go.Proofs.YtenmljkddhonmaaW.PrintWords Go.Proofs.YtenmljkddhonmaaW.PrintLast Go.Proofs.YtenmljkddhonmaaW.PrintMore
set_option linter.unusedVariables false
set_option linter.unusedSimpArgs false
/-! PURE: a changed byte is seen by what Open asks first -/
theorem set_turn (l : List Int) (j : Nat) (x : Nat) (hj : j < l.length) : l.set j (((l.getD j 0).toNat ^^^ x : Nat) : Int) = l.take j ++ QCrc.turn (l.drop j) [x]:=by
 rw [dropD l j hj]
 have : l.set j (((l.getD j 0).toNat ^^^ x : Nat) : Int) = l.take j ++ (((l.getD j 0).toNat ^^^ x : Nat) : Int) :: l.drop (j + 1):=by
  rw [List.set_eq_take_append_cons_drop, if_pos hj]
 rw [this]
 cases l.drop (j + 1) <;> rfl
theorem val256_inj : ∀ {l m : List Int}, Bytes l → Bytes m → l.length = m.length → val256 l = val256 m → l = m
 | [], [], _, _, _, _ => rfl
 | [], _ :: _, _, _, h, _ => by simp at h
 | _ :: _, [], _, _, h, _ => by simp at h
 | a :: l, b :: m, hl, hm, h, hv => by
  have ha := hl a (List.mem_cons_self ..)
  have hb := hm b (List.mem_cons_self ..)
  simp only [val256] at hv
  have e1 : a = b := by omega
  have e2:=val256_inj (fun c hc=>hl c (List.mem_cons_of_mem _ hc)) (fun c hc=>hm c (List.mem_cons_of_mem _ hc)) (by simpa using h) (by omega)
  rw [e1, e2]
theorem first_set {b : List Int} {j x : Nat} (hb : Bytes b) (h : firstOK b) (hj : j < b.length) (hx0 : 0 < x) (hx : x < 256) : ¬ firstOK (b.set j (((b.getD j 0).toNat ^^^ x : Nat) : Int)):=by
 intro h2
 obtain ⟨a0, a1, a2, a3⟩ := h
 obtain ⟨_, c1, c2, c3⟩ := h2
 have hg := hb.getD j
 obtain ⟨v, hv⟩ : ∃ v : Int, v = (((b.getD j 0).toNat ^^^ x : Nat) : Int) := ⟨_, rfl⟩
 have hvb : 0 ≤ v ∧ v < 256 := by
  rw [hv]
  have := Nat.xor_lt_two_pow (n := 8) (x := (b.getD j 0).toNat) (y := x) (by omega) (by omega)
  omega
 have hne : v ≠ b.getD j 0 := by
  intro e
  have e2 : (b.getD j 0).toNat ^^^ x = (b.getD j 0).toNat := by omega
  have e3 : (b.getD j 0).toNat ^^^ ((b.getD j 0).toNat ^^^ x) = (b.getD j 0).toNat ^^^ (b.getD j 0).toNat:=by rw [e2]
  rw [← Nat.xor_assoc, Nat.xor_self, Nat.zero_xor] at e3
  omega
 have hbs : Bytes (b.set j v) := by
  intro c hc
  rcases List.mem_or_eq_of_mem_set hc with h | h
  ·exact hb c h
  ·rw [h]; exact hvb
 have hgj : (b.set j v).getD j 0 = v := by rw [List.getD_eq_getElem?_getD, List.getElem?_set_self hj]; rfl
 rw [← hv] at c1 c2 c3
 rw [List.length_set] at c1 c2 c3
 have get_eq : ∀ (p q : Nat),(b.set j v).getD (p + q) 0 = (((b.set j v).drop p)).getD q 0:=fun p q=>by simp only [List.getD_eq_getElem?_getD,List.getElem?_drop]
 have field : ∀ (p n : Nat),p ≤ j → j < p + n → val256 (((b.set j v).drop p).take n) ≠ val256 ((b.drop p).take n):=by
  intro p n hp hn e
  have e2:=val256_inj ((hbs.drop p).take n) ((hb.drop p).take n) (by simp [List.length_take,List.length_drop,List.length_set]) e
  have e3 := congrArg (fun l => l.getD (j - p) 0) e2
  simp only [List.getD_eq_getElem?_getD, List.getElem?_take, List.getElem?_drop] at e3
  rw [if_pos (by omega),if_pos (by omega),show p + (j - p) = j by omega,← List.getD_eq_getElem?_getD,← List.getD_eq_getElem?_getD,hgj] at e3
  exact hne e3
 by_cases h8 : j < 8
 ·exact field 0 8 (Nat.zero_le _) (by omega) (by rw [List.drop_zero, List.drop_zero, c1, a1])
 ·by_cases hm : b.length - 4 ≤ j
  ·exact field (b.length - 4) 4 hm (by omega) (by rw [c2, a2])
  ·by_cases hs : b.length - 8 ≤ j
   ·refine field (b.length - 8) 4 hs (by omega) ?_
    rw [c3, a3, List.take_set_of_le hs]
   ·have e1 : ((b.set j v).drop (b.length - 8)) = b.drop (b.length - 8) := List.drop_set_of_lt (by omega)
    rw [e1, a3] at c3
    have e2 : (b.set j v).take (b.length - 8) = (b.take (b.length - 8)).set j v := List.take_set
    have e4 : (b.take (b.length - 8)).getD j 0 = b.getD j 0 := by
     simp only [List.getD_eq_getElem?_getD, List.getElem?_take]; rw [if_pos (by omega)]
    rw [e2] at c3
    obtain ⟨t, ht⟩ : ∃ t, t = b.take (b.length - 8) := ⟨_, rfl⟩
    rw [← ht] at c3 e4
    have htl : j < t.length := by rw [ht, List.length_take]; omega
    have htb : Bytes t := by rw [ht]; exact hb.take _
    rw [hv, ← e4, set_turn t j x htl] at c3
    have:=QCrc.sum_turn_ne (a:=t.take j) (l:=t.drop j) (ys:=[x]) (htb.take j) (htb.drop j) (by simp) (by intro y hy;simp at hy;omega) ⟨x,by simp,by omega⟩ (by simp;omega)
    rw [List.take_append_drop] at this
    exact this c3
end Go.Proofs.Ytenmljkddhonmaa.MTbl

namespace Go.Proofs.Ytenmljkddhonmaa.MTbl
open Go.RowKit Go.Proofs.Ytenmljkddhonmaa.QTbl Go.Proofs.YtenmljkddhonmaaW.PrintWords Go.Proofs.YtenmljkddhonmaaW.PrintLast Go.Proofs.YtenmljkddhonmaaW.PrintMore
set_option linter.unusedVariables false
set_option linter.unusedSimpArgs false
set_option maxHeartbeats 2000000 in
set_option maxRecDepth 1000000 in
theorem table_Open_short.calls (A0 : Option Addr) (c0 : Nat) (b : List Int) (w : World) (hl : b.length < 20) :
  Calls Try.prog 23 #[.slice A0 b.length c0] w fun e w'=>e = .returned (.tuple #[.pointer none,.int .i64 8])∧Below w.heap.size w w':=by
 have p1 : ((b.length : Int) < 20) = True := eq_true (by omega)
 go_enter Try.func23, Try.ntmps23
 go_wp2
 go_region
 go_wp2
 go_ret2
 exact ⟨rfl, by repeat (first | exact Below.refl _ _ | apply below_alloc | apply pw_below_drewN | apply below_drew1)⟩
end Go.Proofs.Ytenmljkddhonmaa.MTbl

namespace Go.Proofs.Ytenmljkddhonmaa.MTbl
open Go.RowKit Go.Proofs.Ytenmljkddhonmaa.QTbl Go.Proofs.YtenmljkddhonmaaW.PrintWords Go.Proofs.YtenmljkddhonmaaW.PrintLast Go.Proofs.YtenmljkddhonmaaW.PrintMore
set_option linter.unusedVariables false
set_option linter.unusedSimpArgs false
theorem C_dropN {w : World} {A : Option Addr} {c m : Nat} {xs : List Int} (h : Kd.C (Kd.int .u8) w A xs.length xs) (hm : m < xs.length) (hc : xs.length ≤ c) : Kd.C (Kd.int .u8) w (Option.map (fun x=>x.add m) A) (xs.drop m).length (xs.drop m)∧(xs.drop m).length ≤ c - m∧xs.length - m = (xs.drop m).length:=by
 have h2 := Kd.C_drop (m := m) (c := c) h (by omega) hc
 rw [if_neg (by omega)] at h2
 have hsz1 : (Kd.int .u8).sz = 1 := rfl
 simp only [hsz1, Nat.mul_one] at h2
 exact ⟨h2, by rw [List.length_drop]; omega, by rw [List.length_drop]⟩
set_option maxHeartbeats 2000000 in
set_option maxRecDepth 1000000 in
theorem table_Open_long.calls (A0 : Option Addr) (c0 : Nat) (b : List Int) (w : World) (hr : Kd.C (Kd.int .u8) w A0 b.length b) (hc : b.length ≤ c0) (hl : 20 ≤ b.length) (hl2 : b.length < 4294967296) (hb : Bytes b) (hne : val256 (b.take 8) ≠ b.length) :
  Calls Try.prog 23 #[.slice A0 b.length c0] w fun e w'=>e = .returned (.tuple #[.pointer none,.int .i64 8])∧Below w.heap.size w w':=by
 have p1 : ((b.length : Int) < 20) = False := eq_false (by omega)
 obtain ⟨K, hK⟩ := Get64_ev hb (by omega)
 have HK := Aside0.mk (hK K (Nat.le_refl _))
 have HR := Aside0.mk hr
 obtain ⟨n, hn⟩ : ∃ n, n = val256 (b.take 8) := ⟨_, rfl⟩
 rw [← hn] at HK hne
 have hwr : IntKind.u64.wrap (b.length : Int) = (b.length : Int) := u64_id (by omega) (by omega)
 have hnb : (((n : Nat) : Int) != (b.length : Int)) = true := bne_iff_ne.2 (by omega)
 clear hr hK hn
 go_enter Try.func23, Try.ntmps23
 go_wp2
 go_quiet (first
  | (go_at_call 54;refine Calls.quiet_of (v:=.int .u64 (n : Int)) ((varint_Get64.calls K A0 c0 b n _ ?hC hc HK.out).mono ?_);(case hC=>exact Kd.C_drewN HR.out _);rintro e w' ⟨rfl,hd⟩;exact ⟨rfl,hd.out⟩))
 go_wp2
 go_ret2
 exact ⟨rfl, by repeat (first | exact Below.refl _ _ | apply below_alloc | apply pw_below_drewN | apply below_drew1)⟩
set_option maxHeartbeats 2000000 in
set_option maxRecDepth 1000000 in
theorem table_Open_mark.calls (A0 : Option Addr) (c0 : Nat) (b : List Int) (w : World) (hr : Kd.C (Kd.int .u8) w A0 b.length b) (hc : b.length ≤ c0) (hl : 20 ≤ b.length) (hl2 : b.length < 4294967296) (hb : Bytes b) (hq : val256 (b.take 8) = b.length) (hne : val256 ((b.drop (b.length - 4)).take 4) ≠ 1768842089) :
  Calls Try.prog 23 #[.slice A0 b.length c0] w fun e w'=>e = .returned (.tuple #[.pointer none,.int .i64 8])∧Below w.heap.size w w':=by
 have p1 : ((b.length : Int) < 20) = False := eq_false (by omega)
 obtain ⟨K, hK⟩ := Get64_ev hb (by omega)
 have HK := Aside0.mk (hK K (Nat.le_refl _))
 rw [hq] at HK
 obtain ⟨K4, hK4⟩ := Get32_ev (l := b.drop (b.length - 4)) (hb.drop _) (by rw [List.length_drop]; omega)
 have HK4 := Aside0.mk (hK4 K4 (Nat.le_refl _))
 have HR := Aside0.mk hr
 have hwr : IntKind.u64.wrap (b.length : Int) = (b.length : Int) := u64_id (by omega) (by omega)
 have hnb : (((b.length : Nat) : Int) != (b.length : Int)) = false := by simp
 obtain ⟨hC4, xc4, xy4⟩ := C_dropN hr (m := b.length - 4) (by omega) hc
 have HC4 := Aside0.mk hC4
 have hc4 := Aside0.mk xc4
 have hy4 := Aside0.mk xy4
 clear hC4 xc4 xy4
 obtain ⟨m, hm⟩ : ∃ m, m = val256 ((b.drop (b.length - 4)).take 4) := ⟨_, rfl⟩
 rw [← hm] at HK4 hne
 have hmb : (((m : Nat) : Int) != 1768842089) = true := bne_iff_ne.2 (by omega)
 clear hr hK hK4 hm
 go_enter Try.func23, Try.ntmps23
 go_wp2
 go_quiet (first
  | (go_at_call 54;refine Calls.quiet_of (v:=.int .u64 (b.length : Int)) ((varint_Get64.calls K A0 c0 b b.length _ ?hC hc HK.out).mono ?_);(case hC=>exact Kd.C_drewN HR.out _);rintro e w' ⟨rfl,hd⟩;exact ⟨rfl,hd.out⟩)
  | (go_at_call 55;rw [hy4.out];refine Calls.quiet_of (v:=.int .u32 (m : Int)) ((varint_Get32.calls K4 _ _ (b.drop (b.length - 4)) m _ ?hC hc4.out HK4.out).mono ?_);(case hC=>exact Kd.C_drewN HC4.out _);rintro e w' ⟨rfl,hd⟩;exact ⟨rfl,hd.out⟩))
 go_wp2
 go_ret2
 exact ⟨rfl, by repeat (first | exact Below.refl _ _ | apply below_alloc | apply pw_below_drewN | apply below_drew1)⟩
set_option maxHeartbeats 2000000 in
set_option maxRecDepth 1000000 in
theorem table_Open_sum.calls (A0 : Option Addr) (c0 : Nat) (b : List Int) (w : World) (hr : Kd.C (Kd.int .u8) w A0 b.length b) (hc : b.length ≤ c0) (hl : 20 ≤ b.length) (hl2 : b.length < 4294967296) (hb : Bytes b) (hq : val256 (b.take 8) = b.length) (h4 : val256 ((b.drop (b.length - 4)).take 4) = 1768842089) (hne : val256 ((b.drop (b.length - 8)).take 4) ≠ QCrc.sum (b.take (b.length - 8))) :
  Calls Try.prog 23 #[.slice A0 b.length c0] w fun e w'=>e = .returned (.tuple #[.pointer none,.int .i64 8])∧Below w.heap.size w w':=by
 have p1 : ((b.length : Int) < 20) = False := eq_false (by omega)
 obtain ⟨K, hK⟩ := Get64_ev hb (by omega)
 have HK := Aside0.mk (hK K (Nat.le_refl _))
 rw [hq] at HK
 obtain ⟨K4, hK4⟩ := Get32_ev (l := b.drop (b.length - 4)) (hb.drop _) (by rw [List.length_drop]; omega)
 have HK4 := Aside0.mk (hK4 K4 (Nat.le_refl _))
 have HR := Aside0.mk hr
 have hwr : IntKind.u64.wrap (b.length : Int) = (b.length : Int) := u64_id (by omega) (by omega)
 have hnb : (((b.length : Nat) : Int) != (b.length : Int)) = false := by simp
 obtain ⟨hC4, xc4, xy4⟩ := C_dropN hr (m := b.length - 4) (by omega) hc
 have HC4 := Aside0.mk hC4
 have hc4 := Aside0.mk xc4
 have hy4 := Aside0.mk xy4
 clear hC4 xc4 xy4
 rw [h4] at HK4
 obtain ⟨m, hm⟩ : ∃ m, m = val256 ((b.drop (b.length - 8)).take 4) := ⟨_, rfl⟩
 obtain ⟨s, hs⟩ : ∃ s, s = QCrc.sum (b.take (b.length - 8)) := ⟨_, rfl⟩
 obtain ⟨K8, hK8⟩ := Get32_ev (l := b.drop (b.length - 8)) (hb.drop _) (by rw [List.length_drop]; omega)
 have HK8 := Aside0.mk (hK8 K8 (Nat.le_refl _))
 obtain ⟨KS, hKS⟩ := QCrc.Sum_ev (l := b.take (b.length - 8)) (hb.take _) (by rw [List.length_take]; omega)
 have HKS := Aside0.mk (hKS KS (Nat.le_refl _))
 rw [← hm] at HK8 hne
 rw [← hs] at HKS hne
 obtain ⟨hC8, xc8, xy8⟩ := C_dropN hr (m := b.length - 8) (by omega) hc
 have HC8 := Aside0.mk hC8
 have hc8 := Aside0.mk xc8
 have hy8 := Aside0.mk xy8
 clear hC8 xc8 xy8
 have hyS : Aside0 (b.length - 8 = (b.take (b.length - 8)).length) := ⟨by rw [List.length_take]; omega⟩
 have HCS : Aside0 (Kd.C (Kd.int .u8) w A0 (b.take (b.length - 8)).length (b.take (b.length - 8))):=⟨by rw [← hyS.out];exact (C_takeI hr (m:=b.length - 8) (by omega) hc).2⟩
 have hcS : Aside0 ((b.take (b.length - 8)).length ≤ c0) := ⟨by rw [List.length_take]; omega⟩
 have hmb : (((m : Nat) : Int) != (s : Int)) = true := bne_iff_ne.2 (by omega)
 clear hr hK hK4 hm hs hK8 hKS h4
 go_enter Try.func23, Try.ntmps23
 go_wp2
 go_quiet (first
  | (go_at_call 54;refine Calls.quiet_of (v:=.int .u64 (b.length : Int)) ((varint_Get64.calls K A0 c0 b b.length _ ?hC hc HK.out).mono ?_);(case hC=>exact Kd.C_drewN HR.out _);rintro e w' ⟨rfl,hd⟩;exact ⟨rfl,hd.out⟩)
  | (go_at_call 55;rw [hy4.out];refine Calls.quiet_of (v:=.int .u32 (1768842089 : Int)) ((varint_Get32.calls K4 _ _ (b.drop (b.length - 4)) 1768842089 _ ?hC hc4.out HK4.out).mono ?_);(case hC=>exact Kd.C_drewN HC4.out _);rintro e w' ⟨rfl,hd⟩;exact ⟨rfl,hd.out⟩)
  | (go_at_call 55;rw [hy8.out];refine Calls.quiet_of (v:=.int .u32 (m : Int)) ((varint_Get32.calls K8 _ _ (b.drop (b.length - 8)) m _ ?hC hc8.out HK8.out).mono ?_);(case hC=>exact Kd.C_drewN HC8.out _);rintro e w' ⟨rfl,hd⟩;exact ⟨rfl,hd.out⟩)
  | (go_at_call 53;rw [hyS.out];refine Calls.quiet_of (v:=.int .u32 (s : Int)) ((crc_Sum.calls KS _ _ (b.take (b.length - 8)) s _ ?hC hcS.out HKS.out).mono ?_);(case hC=>exact Kd.C_drewN HCS.out _);rintro e w' ⟨rfl,hd⟩;exact ⟨rfl,hd.out⟩))
 go_wp2
 go_ret2
 exact ⟨rfl, by repeat (first | exact Below.refl _ _ | apply below_alloc | apply pw_below_drewN | apply below_drew1)⟩
/-- What fails the first check is refused. -/
theorem table_Open_bad.calls (A0 : Option Addr) (c0 : Nat) (b : List Int) (w : World) (hr : Kd.C (Kd.int .u8) w A0 b.length b) (hc : b.length ≤ c0) (hl2 : b.length < 4294967296) (hb : Bytes b) (hn : ¬ firstOK b) :
  Calls Try.prog 23 #[.slice A0 b.length c0] w fun e w'=>e = .returned (.tuple #[.pointer none,.int .i64 8])∧Below w.heap.size w w':=by
 by_cases h1 : 20 ≤ b.length
 ·by_cases h2 : val256 (b.take 8) = b.length
  ·by_cases h3 : val256 ((b.drop (b.length - 4)).take 4) = 1768842089
   ·by_cases h4 : val256 ((b.drop (b.length - 8)).take 4) = QCrc.sum (b.take (b.length - 8))
    ·exact absurd ⟨h1, h2, h3, h4⟩ hn
    ·exact table_Open_sum.calls A0 c0 b w hr hc h1 hl2 hb h2 h3 h4
   ·exact table_Open_mark.calls A0 c0 b w hr hc h1 hl2 hb h2 h3
  ·exact table_Open_long.calls A0 c0 b w hr hc h1 hl2 hb h2
 ·exact table_Open_short.calls A0 c0 b w (by omega)
end Go.Proofs.Ytenmljkddhonmaa.MTbl

namespace Go.Proofs.Ytenmljkddhonmaa.MTbl
open Go.RowKit Go.Proofs.Ytenmljkddhonmaa.QTbl Go.Proofs.YtenmljkddhonmaaW.PrintWords Go.Proofs.YtenmljkddhonmaaW.PrintLast Go.Proofs.YtenmljkddhonmaaW.PrintMore
set_option linter.unusedVariables false
set_option linter.unusedSimpArgs false
/-- How many entries' forms stand ahead of a text. -/
def cntF (s : ByteArray) : List S28 → Nat
 | [] => 0
 | x :: t => if Op.bytesLess x.f0.toList s.toList = true then cntF s t + 1 else 0
theorem cntF_le (s : ByteArray) : ∀ l, cntF s l ≤ l.length
 | [] => Nat.le_refl _
 | x :: t => by unfold cntF; split <;> simp [cntF_le s t]
theorem srtR_le {x y : S28} (h : srtR x y) (s : ByteArray) (hy : Op.bytesLess y.f0.toList s.toList = true) : Op.bytesLess x.f0.toList s.toList = true:=by
 have h1 := h.1
 unfold ltS lt3 at h1
 by_cases e : x.f0.toList = y.f0.toList
 ·rw [e]; exact hy
 ·rw [if_neg e] at h1; exact bl_trans _ _ _ h1 hy
theorem cntF_iff (s : ByteArray) : ∀ (l : List S28),l.Pairwise srtR → ∀ i (h : i < l.length),(Op.bytesLess l[i].f0.toList s.toList = true ↔ i < cntF s l)
 | [], _, i, h => by simp at h
 | x :: t, hl, i, h => by
  obtain ⟨h1, h2⟩ := List.pairwise_cons.1 hl
  unfold cntF
  by_cases c : Op.bytesLess x.f0.toList s.toList = true
  ·rw [if_pos c]
   cases i with
   | zero => exact ⟨fun _ => Nat.succ_pos _, fun _ => c⟩
   | succ i =>
    have := cntF_iff s t h2 i (by simpa using h)
    rw [List.getElem_cons_succ, this]; omega
  ·rw [if_neg c]
   cases i with
   | zero => exact ⟨fun z => absurd z c, fun z => by omega⟩
   | succ i => exact ⟨fun z => absurd (srtR_le (h1 _ (List.getElem_mem _)) s z) c, fun z => by omega⟩
theorem from_at (l : List S28) (s : ByteArray) (hs : l.Pairwise srtR) : bsearch (fromAt l s) l.length 0 l.length = cntF s l:=by
 refine bsearch_eq _ _ l.length 0 l.length (by omega) (Nat.zero_le _) (cntF_le s l) (fun i _ hi => ?_)
 unfold fromAt
 rw [rd_T28_nat l i hi]
 have := cntF_iff s l hs i hi
 cases hb : Op.bytesLess l[i].f0.toList s.toList with
 | true => rw [hb] at this; have := this.1 rfl; simp; omega
 | false=>rw [hb] at this;simp only [Bool.not_false,true_iff];by_cases c : cntF s l ≤ i;exact c;exact absurd (this.2 (by omega)) (by simp)
theorem EqAll_self (l : List S28) (hl : l.length < 1000000) : Ev (fun k => incipitref12_EqAll.f k l l) true := by
 have h : ∀ (d i : Nat), l.length - i = d → Ev (fun k => incipitref12_EqAll.l0 k l l (i : Int)) true := by
  intro d
  induction d with
  | zero =>
   intro i hd
   refine Ev.succ ?_
   simp only [incipitref12_EqAll.l0]
   exact Ev.ite_neg (by omega) (Ev.now _)
  | succ d ih =>
   intro i hd
   refine Ev.succ ?_
   simp only [incipitref12_EqAll.l0]
   refine Ev.ite_pos (by omega) (Ev.ite_pos (by omega) (Ev.ite_pos (by omega) (Ev.bind (Ev.same (rEq_self _ _ _ _ _)) (Ev.ite_pos rfl ?_))))
   have := ih (i + 1) (by omega)
   rw [wrap64_id (n := (i : Int) + 1) (by omega) (by omega)]
   exact this
 unfold incipitref12_EqAll.f
 exact Ev.ite_pos rfl (h _ 0 rfl)
theorem C_cut28 {w : World} {A : Option Addr} {c m : Nat} {xs : List S28} (h : Kd.C k28 w A xs.length xs) (hm : m ≤ xs.length) (hc : xs.length ≤ c) : ∃ A1 c1,(∀ W : World,(Instr.slice 24 (.slice A xs.length c) (some (.int .i64 (m : Int))) none none).run Try.prog W = .ok (.slice A1 (xs.drop m).length c1) W)∧Kd.C k28 w A1 (xs.drop m).length (xs.drop m)∧(xs.drop m).length ≤ c1:=by
 obtain ⟨i0, hi0, _, hsz, _⟩ := info_parts info28
 have hcut := cut_from (P := Try.prog) 24 28 .i64 Try.underlying24 hi0 5 hsz A xs.length c m (by omega) (by omega)
 have hr := Kd.C_drop (m := m) (c := c) h hm hc
 have hsz1 : k28.sz = 5 := rfl
 have hy : (xs.drop m).length = xs.length - m := List.length_drop
 simp only [Int.toNat_natCast] at hcut
 rw [hsz1] at hr
 refine ⟨_, c - m, fun W => ?_, hr, ?_⟩
 ·rw [hy]; exact hcut W
 ·rw [hy]; omega
set_option maxHeartbeats 8000000 in
set_option maxRecDepth 1000000 in
theorem law_from.calls (w : World) (g : Nat) (l : List S28) (flt : List Int) (bl : Nat) (s : ByteArray) (A0 : Option Addr) (c0 : Nat) (hI : TabI w g l flt bl) (hl : l.length < 1000000) (hs : l.Pairwise srtR) (hr0 : Kd.C k28 w A0 l.length l) (hc0 : l.length ≤ c0) :
  Calls Try.prog 33 #[.pointer (some ⟨g,0,none⟩),.slice A0 l.length c0,.string s] w fun e w'=>e = .returned (.bool true)∧Below w.heap.size w w':=by
 have hu28 := Try.underlying28
 have hFr := table_From.calls w g l flt bl s hI (by omega)
 rw [from_at l s hs] at hFr
 have HG := Aside0.mk hFr
 have HS := Aside0.mk (cntF_iff s l hs)
 have HLE := cntF_le s l
 obtain ⟨K, hK⟩ := EqAll_self (l.drop (cntF s l)) (by rw [List.length_drop]; omega)
 have HK := Aside0.mk (hK K (Nat.le_refl _))
 have HR := Aside0.mk hr0
 obtain ⟨A1, c1, hcut, hC1, hc1⟩ := C_cut28 hr0 HLE hc0
 have HC1 := Aside0.mk hC1
 clear hI hr0 hFr hK hC1
 generalize cntF s l = n at HG HS HLE hcut HK HC1 hc1
 generalize hd : l.drop n = ld at *
 go_enter Try.func33, Try.ntmps33
 go_wp2_with (first | (go_at_call 28;refine HG.out.mono ?_;rintro e w1 ⟨v1,rfl,hv,hb⟩;obtain ⟨Av,cv,rfl⟩:=Kd.R_slice hv;have HV:=Aside0.mk (Kd.R_reads' hv).2;have HB1:=Aside0.mk hb;clear hb hv))
 go_loopg [9] n (fun kx s9 wr => ∃ j : Nat, s9 = .int .i64 j ∧ j ≤ n ∧ n - j ≤ kx ∧ Aside0 (Below w1.heap.size w1 wr))
 case atStart => exact ⟨0, rfl, Nat.zero_le _, by omega, ⟨Below.refl _ _⟩⟩
 case round =>
  obtain ⟨j, rfl, hjn, hjk, HB⟩ := hrel
  have HRr := Aside0.mk (Kd.C_below (Kd.C_below HR.out HB1.out) HB.out)
  by_cases hj : j < l.length
  ·obtain ⟨ad, rfl, h0, _, _, _, _⟩ := at_T28 HRr.out (j : Int) (by omega) (by omega)
   have p1 : ((0 : Int) ≤ (j : Int)) = True := eq_true (by omega)
   have p2 : ((j : Int) < (l.length : Int)) = True := eq_true (by omega)
   have p3 : (j < l.length) = True := eq_true hj
   have hlt := HS.out j hj
   rw [Int.toNat_natCast] at h0
   rw [rd_T28_nat l j hj] at h0
   generalize l[j].f0 = y at h0 hlt
   cases hy : Op.bytesLess y.toList s.toList with
   | true =>
    have hjn2 : j < n := hlt.1 hy
    cases gk with
    | zero => omega
    | succ k1 =>
    go_wp2
    go_roundg k1
    case measure => omega
    case rel => exact ⟨j + 1, by rw [Int.natCast_add]; rfl, by omega, by omega, HB⟩
   | false =>
    obtain rfl : j = n := by
     by_cases c : j < n
     ·rw [hlt.2 c] at hy; cases hy
     ·omega
    go_wp2_with (go_at_call 15;refine (incipitref12_EqAll.calls K Av cv ld A1 c1 ld true _ (Kd.C_below HV.out.2 HB.out) HV.out.1 (Kd.C_below (Kd.C_below HC1.out HB1.out) HB.out) hc1 HK.out).mono ?_;rintro e w3 ⟨rfl,hb⟩;have HB3:=Aside0.mk (below_step (below_step HB1.out HB.out) hb);clear hb)
    go_ret
    exact ⟨rfl, HB3.out⟩
  ·have p2 : ((j : Int) < (l.length : Int)) = False := eq_false (by omega)
   have p3 : (j < l.length) = False := eq_false hj
   obtain rfl : j = n := by omega
   go_wp2_with (go_at_call 15;refine (incipitref12_EqAll.calls K Av cv ld A1 c1 ld true _ (Kd.C_below HV.out.2 HB.out) HV.out.1 (Kd.C_below (Kd.C_below HC1.out HB1.out) HB.out) hc1 HK.out).mono ?_;rintro e w3 ⟨rfl,hb⟩;have HB3:=Aside0.mk (below_step (below_step HB1.out HB.out) hb);clear hb)
   go_ret
   exact ⟨rfl, HB3.out⟩
end Go.Proofs.Ytenmljkddhonmaa.MTbl

namespace Go.Proofs.Ytenmljkddhonmaa.MTbl
open Go.RowKit Go.Lib Go.Sort Go.Proofs.YtenmljkddhonmaaW.PrintWords Go.Proofs.YtenmljkddhonmaaW.PrintLast Go.Proofs.YtenmljkddhonmaaW.PrintMore
set_option linter.unusedVariables false
set_option linter.unusedSimpArgs false
theorem store_world_string {w wr : World} {n blk off : Nat} {dk : Array (List UInt8)} {i : Nat} (hi : i < dk.size) (hwr : wr = putRow encStr (Sort.ahead w n) blk off dk) (x : (List UInt8)) :
  (wr.setCell ⟨blk,off + i,none⟩ (encStr x)).drew = putRow encStr (Sort.ahead w (n + 1)) blk off (dk.setIfInBounds i x):=by
 subst hwr
 rw [putRow_set encStr _ blk off dk i x hi, ← ahead_drew]
 rfl

set_option maxHeartbeats 4000000 in
set_option maxRecDepth 1000000 in
/-- slices.Compact at []string, over an array: the library's two loops are walked. -/
theorem slices_Compact_arr (blk off cap : Nat) (d : Array (List UInt8)) (w : World) (hH : Holds encStr w blk off d) (hsz : d.size ≤ 9223372036854775807) (hcap : d.size ≤ cap) :
  Calls Try.prog 72 #[.slice (some ⟨blk,off,none⟩) d.size cap] w fun e w'=>e = .returned (.slice (some ⟨blk,off,none⟩) (compactUpTo d d.size).length cap)∧∃ q,w' = putRow encStr (Sort.ahead w q) blk off (compactUpTo d d.size ++ List.replicate (d.size - (compactUpTo d d.size).length) []).toArray:=by
 have hu91 := Try.underlying91
 have same : ∀ q,(∀ j,j < d.size → keeps d j = true) → (compactUpTo d d.size).length = d.size∧w.drewN q = putRow encStr (Sort.ahead w q) blk off (compactUpTo d d.size ++ List.replicate (d.size - (compactUpTo d d.size).length) []).toArray:=by
  intro q hall
  have e : compactUpTo d d.size = d.toList := by rw [compactUpTo_all d _ hall, range_map_get]
  rw [e]
  refine ⟨by simp, ?_⟩
  simp only [Array.length_toList, Nat.sub_self, List.replicate_zero, List.append_nil, Array.toArray_toList]
  exact (putRow_self encStr (Sort.ahead w q) blk off d (holds_ahead encStr w q blk off d hH)).symm
 have HS : Aside (∀ q,(∀ j,j < d.size → keeps d j = true) → (compactUpTo d d.size).length = d.size∧w.drewN q = putRow encStr (Sort.ahead w q) blk off (compactUpTo d d.size ++ List.replicate (d.size - (compactUpTo d d.size).length) []).toArray):=same
 clear same
 by_cases h2 : d.size < 2
 ·have HH : Aside (Holds encStr w blk off d) := hH
  clear hH
  go_enter Try.func72, Try.ntmps72
  go_wp2
  go_ret
  obtain ⟨e1, e2⟩ := HS.out 0 (fun j hj => keeps_lt_one d j (by omega))
  exact ⟨by rw [e1]; rfl, 0, e2⟩
 ·go_enter Try.func72, Try.ntmps72
  go_wp2
  go_loopg [3] d.size (fun g s3 wr=>∃ k q : Nat,1 ≤ k∧k ≤ d.size∧d.size - k ≤ g∧s3 = .int .i64 k∧wr = w.drewN q∧∀ j,j < k → keeps d j = true)
  case atStart => exact ⟨1, 0, Nat.le_refl _, by omega, by omega, rfl, rfl, keeps_lt_one d⟩
  case round =>
   obtain ⟨k, q, hk1, hk, hg, rfl, rfl, hall⟩ := hrel
   by_cases hlt : k < d.size
   ·obtain ⟨c1, f1⟩ := hH k hlt
    obtain ⟨c0, f0⟩ := hH (k - 1) (by omega)
    have A : Aside (∀ j, j < k → keeps d j = true) := hall
    have HH : Aside (Holds encStr w blk off d) := hH
    clear hall hH
    generalize hx : d[k]! = x at c1
    generalize hy : d[k - 1]! = y at c0
    have B : Aside (d[k]! = x ∧ d[k - 1]! = y) := ⟨hx, hy⟩
    clear hx hy
    by_cases hdup : x = y
    ·subst hdup
     go_wp2_with fail
     go_region
     go_wp2
     clear c0 c1 f0 f1
     go_loopg [3,5] d.size (fun g s3 s5 wr=>∃ (kk k2 q2 : Nat) (dk : Array (List UInt8)),s3 = .int .i64 kk∧s5 = .int .i64 k2∧1 ≤ k2∧k + k2 ≤ d.size∧d.size - (k + k2) ≤ g∧wr = putRow encStr (Sort.ahead w q2) blk off dk∧CompInv d (k + k2) kk dk)
     case atStart=>exact ⟨k,1,q + 1,d,rfl,rfl,Nat.le_refl _,by omega,by omega,(putRow_self encStr (Sort.ahead w (q + 1)) blk off d (holds_ahead encStr w (q + 1) blk off d HH.out)).symm,CompInv.start A.out (keeps_neg (by omega) (by rw [B.out.1,B.out.2]))⟩
     case round =>
      obtain ⟨kk, k2, q2, dk, rfl, rfl, h1, hle, hg2, hwr, hI⟩ := hrel
      have hkk := hI.lt
      have hds := hI.size
      have hHk : Holds encStr wr blk off dk:=by rw [hwr];exact holds_putRow encStr _ blk off d dk (holds_ahead encStr w q2 blk off d HH.out) hds
      have W2 : Aside (wr = putRow encStr (Sort.ahead w q2) blk off dk) := hwr
      have I2 : Aside (CompInv d (k + k2) kk dk) := hI
      clear hwr
      by_cases hlt2 : k + k2 < d.size
      ·obtain ⟨cm, _⟩ := hHk (k + k2) (by omega)
       obtain ⟨cp, _⟩ := hHk (k + k2 - 1) (by omega)
       obtain ⟨ck, fk⟩ := hHk kk (by omega)
       rw [hI.high (k + k2) (by omega), show off + (k + k2) = off + k + k2 by omega] at cm
       rw [hI.high (k + k2 - 1) (by omega), show off + (k + k2 - 1) = off + k + (k2 - 1) by omega] at cp
       clear hHk hI
       generalize hu : d[k + k2]! = u at cm
       generalize hv : d[k + k2 - 1]! = v at cp
       generalize dk[kk]! = old at ck
       have C : Aside (d[k + k2]! = u ∧ d[k + k2 - 1]! = v) := ⟨hu, hv⟩
       clear hu hv
       by_cases huv : u = v
       ·subst huv
        go_wp2_with fail
        go_region
        go_wp2
        go_roundg (d.size - (k + (k2 + 1)))
        case measure => omega
        case rel=>exact ⟨kk,k2 + 1,q2 + 1,dk,rfl,by go_num,by omega,by omega,Nat.le_refl _,by rw [W2.out];rfl,I2.out.skip (keeps_neg (by omega) (by rw [C.out.1,C.out.2]))⟩
       ·have hne : (u == v) = false := beq_eq_false_iff_ne.2 huv
        go_wp2_with fail
        go_region
        go_wp2
        go_roundg (d.size - (k + (k2 + 1)))
        case measure => omega
        case rel=>exact ⟨kk + 1,k2 + 1,q2 + 1,dk.setIfInBounds kk u,by go_num,by go_num,by omega,by omega,Nat.le_refl _,store_world_string (by omega) W2.out u,by have:=I2.out.keep hlt2 (keeps_pos (by rw [C.out.1,C.out.2];exact huv));rwa [C.out.1] at this⟩
      ·have hend : k + k2 = d.size := by omega
       have hcl : ∀ ty,(Builtin.clear_ #[91] ty #[.slice (some ⟨blk,off + kk,none⟩) (d.size - kk) (cap - kk)]).run Try.prog wr = .ok (.tuple #[]) (wr.setCells blk (off + kk) (List.replicate (d.size - kk) (encStr []))) :=
        fun ty=>Lib.run_clear_slice wr _ _ ty (encStr []) Try.underlying91 (fun _=>by rfl) rfl rfl blk (off + kk) _ _ (by omega) (fun j hj=>by rw [show off + kk + j = off + (kk + j) by omega,(hHk (kk + j) (by omega)).1];rfl) (fun j hj=>by rw [show off + kk + j = off + (kk + j) by omega];exact (hHk (kk + j) (by omega)).2)
       clear hHk hI
       go_wp2
       go_ret
       have hI := I2.out
       rw [hend] at hI
       refine ⟨by rw [hI.len]; rfl, q2, ?_⟩
       rw [hI.len,← hI.done [],← putRow_setCells encStr _ blk off _ dk kk (by simp;omega),← W2.out,List.map_replicate]
    ·have hne : (x == y) = false := beq_eq_false_iff_ne.2 hdup
     go_wp2_with fail
     go_region
     go_wp2
     go_roundg (d.size - (k + 1))
     case measure => omega
     case rel =>
      refine ⟨k + 1, q + 1, by omega, by omega, Nat.le_refl _, by go_num, rfl, fun j hj => ?_⟩
      by_cases e : j = k
      ·subst e
       exact keeps_pos (by rw [B.out.1, B.out.2]; exact hdup)
      ·exact A.out j (by omega)
   ·have : k = d.size := by omega
    subst this
    have HH : Aside (Holds encStr w blk off d) := hH
    clear hH
    go_wp2
    go_ret
    obtain ⟨e1, e2⟩ := HS.out q hall
    exact ⟨by rw [e1]; rfl, q, e2⟩

/-- slices.Compact at []string: "Compact replaces consecutive runs of equal elements with a single copy. This is like the uniq command found on Unix. Compact modifies the contents of the slice s and returns the modified slice, which may have a smaller length. Compact zeroes the elements between the new length and the original length. The result preserves the nilness of s.": IT RETURNS THE SLICE CUT TO 'Lib.compact zs'; ITS CELLS HOLD 'Lib.compact zs', THEN ZERO VALUES up to the old length; all else is as it was, but for the count of draws. IN THE WORDS OF slices.Sort's CONTRACT ('Holds', 'putRow'): so the everyday 'slices.Sort(xs); xs = slices.Compact(xs)' goes from the one contract to the other. It asks 'zs.length ≤ cap' (every slice's: the reslicing 's[:k]' looks at it). Length 0, nil: '.._empty'. -/
theorem slices_Compact_str (blk off cap : Nat) (zs : List (List UInt8)) (w : World) (hH : Holds encStr w blk off zs.toArray) (hsz : zs.length ≤ 9223372036854775807) (hcap : zs.length ≤ cap) :
  Calls Try.prog 72 #[.slice (some ⟨blk,off,none⟩) zs.length cap] w fun e w'=>e = .returned (.slice (some ⟨blk,off,none⟩) (Lib.compact zs).length cap)∧∃ q,w' = putRow encStr (Sort.ahead w q) blk off (Lib.compact zs ++ List.replicate (zs.length - (Lib.compact zs).length) []).toArray:=by
 have h := slices_Compact_arr blk off cap zs.toArray w hH (by simpa using hsz) (by simpa using hcap)
 simpa [Lib.compact] using h
end Go.Proofs.Ytenmljkddhonmaa.MTbl

namespace Go.Proofs.Ytenmljkddhonmaa.MTbl
open Go.RowKit Go.Proofs.YtenmljkddhonmaaW.PrintWords Go.Proofs.YtenmljkddhonmaaW.PrintLast Go.Proofs.YtenmljkddhonmaaW.PrintMore
set_option linter.unusedVariables false
set_option linter.unusedSimpArgs false
/-! The forms of entries, equal ones behind one another once -/
def compB (l : List ByteArray) : List ByteArray:=(Lib.compact (l.map (·.data.toList))).map (fun x=>(⟨x.toArray⟩ : ByteArray))
theorem mem_compactUpTo {α : Type} [Inhabited α] [DecidableEq α] (d : Array α) (m : Nat) : ∀ j,j < m → d[j]! ∈ Lib.compactUpTo d m:=by
 intro j
 induction j with
 | zero =>
  intro h
  unfold Lib.compactUpTo
  exact List.mem_map.2 ⟨0, List.mem_filter.2 ⟨List.mem_range.2 h, Lib.keeps_lt_one d 0 (by omega)⟩, rfl⟩
 | succ j ih =>
  intro h
  by_cases he : d[j + 1]! = d[j]!
  ·rw [he]; exact ih (by omega)
  ·unfold Lib.compactUpTo
   exact List.mem_map.2 ⟨j + 1, List.mem_filter.2 ⟨List.mem_range.2 h, Lib.keeps_pos (by simpa using he)⟩, rfl⟩
theorem compactUpTo_le {α : Type} [Inhabited α] [DecidableEq α] (d : Array α) (m : Nat) : (Lib.compactUpTo d m).length ≤ m:=by
 unfold Lib.compactUpTo
 rw [List.length_map]
 refine Nat.le_trans (List.length_filter_le _ _) ?_
 rw [List.length_range]; exact Nat.le_refl _
theorem compB_length (l : List ByteArray) : (compB l).length ≤ l.length := by
 unfold compB Lib.compact
 rw [List.length_map]
 refine Nat.le_trans (compactUpTo_le _ _) ?_
 rw [List.length_map]; exact Nat.le_refl _
theorem mem_compB {x : ByteArray} {l : List ByteArray} : x ∈ compB l ↔ x ∈ l := by
 unfold compB Lib.compact
 constructor
 ·intro h
  obtain ⟨y, hy, rfl⟩ := List.mem_map.1 h
  unfold Lib.compactUpTo at hy
  obtain ⟨j, hj, rfl⟩ := List.mem_map.1 hy
  have hj := List.mem_range.1 (List.mem_filter.1 hj).1
  rw [List.length_map] at hj
  have e : (l.map (·.data.toList)).toArray[j]! = (l[j]).data.toList := by
   rw [getElem!_pos _ _ (by simpa using hj)]
   simp
  rw [e]
  exact List.getElem_mem hj
 ·intro h
  obtain ⟨j, hj, rfl⟩ := List.mem_iff_getElem.1 h
  have h2 := mem_compactUpTo (l.map (·.data.toList)).toArray (l.map (·.data.toList)).length j (by simpa using hj)
  refine List.mem_map.2 ⟨_, h2, ?_⟩
  rw [getElem!_pos _ _ (by simpa using hj)]
  simp
theorem slices_Compact.calls (v : Value) (l : List ByteArray) (w : World) (base : Nat) (ok : Nat → Prop) (h : Kd.R Kd.string 9 w base ok v l) (hne : l ≠ []) (hl : l.length ≤ 100000) :
  Calls Try.prog 72 #[v] w fun e w'=>∃ v',e = .returned v'∧Kd.R Kd.string 9 w' base (fun _=>True) v' (compB l)∧∀ w0,Below base w0 w → Below base w0 w':=by
 have ho := Kd.own_of_R h
 unfold encs at ho
 rw [← Lib.map_encStr] at ho
 have hv : v ≠ .slice none 0 0 := by
  rintro rfl
  have := (Kd.R_reads' h).1
  exact hne (List.length_eq_zero_iff.1 this.symm)
 obtain ⟨g, cap, rfl, hbg, hgl, hnc, hcm, hlen, hH⟩ := Lib.holds_of_ownsRow ho hv
 have hq:=slices_Compact_str g 0 cap (l.map (·.data.toList)) w hH (by rw [List.length_map];omega) (by rw [List.length_map];omega)
 rw [List.length_map] at hq
 refine hq.mono ?_
 rintro e w' ⟨rfl, q, rfl⟩
 have hcl : (Lib.compact (l.map (·.data.toList))).length ≤ l.length:=by have:=compB_length l;unfold compB at this;rwa [List.length_map] at this
 refine ⟨_, rfl, Kd.R_of_own ?_ (fun _ _ => trivial), fun w0 hb => Lib.below_putRow hb hbg⟩
 have h3:=Lib.ownsRow_putRow (q:=q) (k:=(Lib.compact (l.map (·.data.toList))).length) (ys:=Lib.compact (l.map (·.data.toList)) ++ List.replicate (l.length - (Lib.compact (l.map (·.data.toList))).length) []) ho (by rw [List.length_append,List.length_replicate];omega) hcl
 rw [List.take_left'  rfl] at h3
 have e1 : (compB l).length = (Lib.compact (l.map (·.data.toList))).length := by unfold compB; rw [List.length_map]
 have e2 : encs Value.string (compB l) = (Lib.compact (l.map (·.data.toList))).map Proofs.encStr := by
  unfold encs compB
  rw [List.map_map]
  apply List.map_congr_left
  intro x _
  simp [Proofs.encStr]
 rw [e1, e2]
 exact h3
theorem info9 : (Try.prog.info? 9).map (fun i=>(i.zero,i.size,i.bytes)) = some (some (.string ⟨#[]⟩),1,16):=by kernel_rfl
set_option maxHeartbeats 2000000 in
set_option maxRecDepth 1000000 in
theorem table_norms.calls (A : Option Addr) (c : Nat) (l : List S28) (w : World) (hr : Kd.C k28 w A l.length l) (hne : l ≠ []) (hl : l.length ≤ 100000) :
  Calls Try.prog 50 #[.slice A l.length c] w fun e w'=>∃ v,e = .returned v∧Kd.R Kd.string 9 w' w.heap.size (fun _=>True) v (compB (l.map S28.f0))∧Below w.heap.size w w':=by
 have hu28 := Try.underlying28
 have hu91 := Try.underlying91
 have HR := Aside0.mk hr
 have HN := Aside0.mk hne
 have HL := Aside0.mk hl
 clear hr hne hl
 go_enter Try.func50, Try.ntmps50
 go_wp2
 go_loopg [3,8] l.length (fun kx s3 s8 wr=>∃ (i : Nat) (u : Value),s3 = u∧s8 = .int .i64 i∧i ≤ l.length∧l.length - i ≤ kx∧Aside0 (Kd.R Kd.string 9 wr w.heap.size (fun _=>True) u ((l.take i).map S28.f0))∧Aside0 (Below w.heap.size w wr))
 case atStart => exact ⟨0, _, rfl, rfl, Nat.zero_le _, by omega, ⟨Kd.R_nil _ _ _ _ _⟩, ⟨Below.refl _ _⟩⟩
 case round =>
  obtain ⟨i, u3, rfl, rfl, hie, hik, HO, HB⟩ := hrel
  by_cases hi : i < l.length
  ·cases gk with
   | zero => omega
   | succ k1 =>
   have HVr := Kd.C_below HR.out HB.out
   obtain ⟨ad, rfl, g0, g1, g2, g3, g4⟩ := at_T28 HVr (i : Int) (by omega) (by omega)
   have hx : rd_T28 l (i : Int) = l[i] := by
    unfold rd_T28; rw [Int.toNat_natCast, List.getD_eq_getElem?_getD, List.getElem?_eq_getElem hi]; rfl
   have htk : (l.take (i + 1)).map S28.f0 = (l.take i).map S28.f0 ++ [(l[i]).f0]:=by rw [List.take_succ_eq_append_getElem hi,List.map_append];rfl
   rw [hx] at g0 g1 g2 g3 g4
   rw [Int.toNat_natCast] at g0
   simp only [Int.toNat_natCast] at g1 g2 g3 g4
   clear HVr hx
   have HT := Aside0.mk htk
   have hll := HL.out
   have hlen : ((l.take i).map S28.f0).length = i := by rw [List.length_map, List.length_take]; omega
   have HLE := Aside0.mk hlen
   clear htk hlen
   generalize l[i] = x at *
   have p1 : ((i : Int) < (l.length : Int)) = True := eq_true (by omega)
   have p3 : (i < l.length) = True := eq_true hi
   have hwa : (wr.alloc (.cells #[.string x.f0,.int .i64 x.f1,.int .i64 x.f2,.string x.f3,.string x.f4] 28)).heap.size = wr.heap.size + 1:=by simp
   go_wp2_with (first | ((with_reducible refine gate_builtin (b:=.append) (xs:=#[.tmp 12,.tmp 15]) rfl ?_);at_builtin;refine Kd.R_append Kd.string (w0:=w) (W:=wr.alloc (.cells #[.string x.f0,.int .i64 x.f1,.int .i64 x.f2,.string x.f3,.string x.f4] 28)) w.heap.size rfl (.tmp 12) (.tmp 15) 91 9 (.string ⟨#[]⟩) 16 rfl Try.underlying91 info9 rfl (by decide) (by omega) u3 ((l.take i).map S28.f0) x.f0 [.string x.f0] (fun _=>True) (fun _=>False) rfl (by rw [hwa];rfl) ?aP (fun _ hk=>hk.elim) ?aF ?aO ?aB ?aS ?aL ?_;(case aP=>exact rfl);(case aB=>exact below_alloc HB.out _);(case aF=>exact (fun _ _=>trivial));(case aO=>exact Kd.R_alloc HO.out _);(case aS=>exact below_size (below_alloc HB.out _));(case aL=>have:=HLE.out;rw [List.length_map,List.length_take];omega);intro v6 w6 ho hb hg hat;have HO6:=Aside0.mk ho;have HB6:=Aside0.mk hb;clear ho hb hg hat))
   go_roundg k1
   case measure => omega
   case rel => exact ⟨i + 1, _, rfl, by go_num, by omega, by omega, by rw [HT.out]; exact HO6, HB6⟩
  ·have hie2 : i = l.length := by omega
   subst hie2
   rw [List.take_length] at HO
   have hq:=slices_Compact.calls u3 (l.map S28.f0) wr w.heap.size _ HO.out (by simpa using HN.out) (by rw [List.length_map];exact HL.out)
   clear HO
   go_wp2_with (go_at_call 72;refine hq.mono ?_;rintro e w' ⟨v,rfl,h1,h2⟩;have HV:=Aside0.mk h1;have HB2:=Aside0.mk (h2 w HB.out);clear h1 h2)
   go_ret
   exact ⟨_, rfl, HV.out, HB2.out⟩
end Go.Proofs.Ytenmljkddhonmaa.MTbl

namespace Go.Proofs.Ytenmljkddhonmaa.MTbl
open Go.RowKit Go.Proofs.Ytenmljkddhonmaa.QTbl Go.Proofs.YtenmljkddhonmaaW.PrintWords Go.Proofs.YtenmljkddhonmaaW.PrintLast Go.Proofs.YtenmljkddhonmaaW.PrintMore
set_option linter.unusedVariables false
set_option linter.unusedSimpArgs false
/-! A builder whose blocks lie from n on; what lies below n stays -/
def trunc (w : World) (n : Nat) : World := { w with heap := w.heap.extract 0 n }
theorem trunc_size {w : World} {n : Nat} (h : n ≤ w.heap.size) : (trunc w n).heap.size = n := by
 unfold trunc; simp; omega
theorem trunc_at {w : World} {n k : Nat} (h : n ≤ w.heap.size) (hk : k < n) : (trunc w n).heap[k]? = w.heap[k]? := by
 unfold trunc; simp [Array.getElem?_extract]; omega
theorem trunc_below {w : World} {n : Nat} (h : n ≤ w.heap.size) : Below n (trunc w n) w :=
 ⟨rfl, rfl, rfl, by rw [trunc_size h]; exact h, fun k hk => (trunc_at h hk).symm⟩
theorem u8_step {w w1 : World} {base : Nat} {ok : Nat → Prop} {v : Value} {xs : List Int} (h : Kd.R (Kd.int .u8) 5 w base ok v xs) (hm : ∀ k,v.ownBlock = some k → w1.heap[k]? = w.heap[k]?) : Kd.R (Kd.int .u8) 5 w1 base ok v xs :=
 Kd.R_reok rfl (Kd.R_step (Kd.R_tight rfl h) (fun k hk _ => hm k hk.symm)) h.1
theorem u8_ok {w : World} {base : Nat} {ok ok' : Nat → Prop} {v : Value} {xs : List Int} (h : Kd.R (Kd.int .u8) 5 w base ok v xs) (hm : ∀ k,v.ownBlock = some k → ok' k) : Kd.R (Kd.int .u8) 5 w base ok' v xs:=Kd.R_reok rfl h hm
def BldN (n : Nat) (w : World) (g : Nat) (s : St) : Prop :=
 n ≤ w.heap.size∧n ≤ g∧∃ vb vp,w.heap[g]? = some (.cells #[.int .i64 s.rows,.string s.last,vb,vp] 120 (0,0))∧Kd.R (Kd.int .u8) 5 w n (fun k=>k ≠ g) vb s.b∧Kd.R (Kd.int .u8) 5 w n (fun k=>k ≠ g) vp s.p∧(∀ k,vb.ownBlock = some k → vp.ownBlock ≠ some k)
theorem BldN.toS {n : Nat} {w : World} {g : Nat} {s : St} (h : BldN n w g s) : BldS (trunc w n) w g s := by
 obtain ⟨h1, h2, vb, vp, h3, h4, h5, h6⟩ := h
 have e := trunc_size h1
 unfold BldS BldI
 rw [e]
 exact ⟨h2, trunc_below h1, vb, vp, h3, h4, h5, h6⟩
theorem BldN.ofS {n : Nat} {w w0 : World} {g : Nat} {s : St} (h : BldS w0 w g s) (hn : w0.heap.size = n) : BldN n w g s:=by
 obtain ⟨h2, hB, vb, vp, h3, h4, h5, h6⟩ := h
 rw [hn] at h2 h4 h5
 exact ⟨by have := hB.size; omega, h2, vb, vp, h3, h4, h5, h6⟩
/-- What turns only below n leaves the builder. -/
theorem BldN.step {n : Nat} {w w1 : World} {g : Nat} {s : St} (h : BldN n w g s) (hs : w.heap.size ≤ w1.heap.size) (hm : ∀ k,n ≤ k → k < w.heap.size → w1.heap[k]? = w.heap[k]?) : BldN n w1 g s:=by
 obtain ⟨h1, h2, vb, vp, h3, h4, h5, h6⟩ := h
 refine ⟨by omega,h2,vb,vp,(hm g h2 (blk_lt h3)).trans h3,u8_step h4 (fun k hk=>hm k (Kd.R_base h4 k hk) (Kd.R_lt h4 k hk)),u8_step h5 (fun k hk=>hm k (Kd.R_base h5 k hk) (Kd.R_lt h5 k hk)),h6⟩
theorem BldN.below {n : Nat} {w w1 : World} {g : Nat} {s : St} (h : BldN n w g s) (hb : Below w.heap.size w w1) : BldN n w1 g s:=h.step hb.size (fun k _ hk=>hb.block k hk)
theorem BldN.set {n : Nat} {w : World} {g : Nat} {s : St} (h : BldN n w g s) {p i : Nat} (hp : p < n) (u : Value) : BldN n (w.setCell ⟨p,i,none⟩ u) g s :=
 h.step (by rw [World.size_setCell];exact Nat.le_refl _) (fun k hk _=>Below.heap_setCell w _ u k (by show k ≠ p;omega))
theorem below_of_trunc {n : Nat} {w w' : World} (hn : n ≤ w.heap.size) (h : Below n (trunc w n) w') (hs : w.heap.size ≤ w'.heap.size) : Below n w w' :=
 ⟨h.os, h.tape, h.output, hs, fun k hk => (h.block k hk).trans (trunc_at hn hk)⟩
theorem addN.calls (n : Nat) (w : World) (g : Nat) (s : St) (key value : ByteArray) (hI : BldN n w g s) (hr : s.rows < 1000000000) (hl : s.last.size < 1000000) (hks : key.size < 1000000) (hvs : value.size < 1000000) (hbl : s.b.length < 4294967296) (hpl : s.p.length < 4294967296) (ha : addB s key = true) :
  Calls Try.prog 45 #[.pointer (some ⟨g,0,none⟩),.string key,.string value] w fun e w'=>e = .returned (.bool true)∧BldN n w' g (addT s key value)∧Below n w w'∧Oth w w' g:=by
 have hn := hI.1
 refine (block_Add.calls (trunc w n) w g s key value hI.toS hr hl hks hvs hbl hpl).mono ?_
 rintro e w' ⟨rfl, h1, h2⟩
 rw [ha, if_pos rfl] at h1
 have hb := h1.base
 rw [trunc_size hn] at hb
 exact ⟨by rw [ha], BldN.ofS h1 (trunc_size hn), below_of_trunc hn hb h2.1, h2⟩
theorem bytesN.calls (n : Nat) (w : World) (g : Nat) (s : St) (hI : BldN n w g s) (hbl : s.b.length < 4294967296) (hpl : s.p.length < 4294967296) :
  Calls Try.prog 43 #[.pointer (some ⟨g,0,none⟩)] w fun e w'=>∃ v,e = .returned v∧Kd.R (Kd.int .u8) 5 w' w.heap.size (fun _=>True) v s.out∧Below w.heap.size w w':=by
 refine (block_BytesS.calls (trunc w n) w g s hI.toS hbl hpl).mono ?_
 rintro e w' ⟨v, rfl, h1, h2, h3⟩
 exact ⟨v, rfl, h1, h3⟩
theorem newN.calls (w : World) :
  Calls Try.prog 41 #[] w fun e w'=>∃ g : Nat,e = .returned (.pointer (some ⟨g,0,none⟩))∧BldN w.heap.size w' g St0∧Below w.heap.size w w':=by
 refine (block_NewS.calls w w (Below.refl _ _)).mono ?_
 rintro e w' ⟨g, rfl, h1, h2, h3⟩
 exact ⟨g, rfl, BldN.ofS h1 rfl, h2⟩
theorem sizeN.calls (n : Nat) (w : World) (g : Nat) (s : St) (hI : BldN n w g s) (hbl : s.b.length < 4294967296) (hpl : s.p.length < 4294967296) :
  Calls Try.prog 48 #[.pointer (some ⟨g,0,none⟩)] w fun e w'=>e = .returned (.int .i64 (szB s))∧∃ m,w' = w.drewN m:=by
 obtain ⟨h1, h2, vb, vp, h3, h4, h5, h6⟩ := hI
 obtain ⟨Ab, cb, rfl⟩ := Kd.R_slice h4
 obtain ⟨Ap, cp, rfl⟩ := Kd.R_slice h5
 refine (block_Size_.calls w g s.rows s.last Ab s.b.length cb Ap s.p.length cp h3).mono ?_
 rintro e w' ⟨rfl, m, rfl⟩
 refine ⟨?_, m, rfl⟩
 rw [wrap64_id (n := (s.b.length : Int) + s.p.length) (by omega) (by omega), wrap64_id (by omega) (by omega)]
 unfold szB
 congr 2
end Go.Proofs.Ytenmljkddhonmaa.MTbl

namespace Go.Proofs.Ytenmljkddhonmaa.MTbl
open Go.RowKit Go.Proofs.Ytenmljkddhonmaa.QTbl Go.Proofs.YtenmljkddhonmaaW.PrintWords Go.Proofs.YtenmljkddhonmaaW.PrintLast Go.Proofs.YtenmljkddhonmaaW.PrintMore
set_option linter.unusedVariables false
set_option linter.unusedSimpArgs false
/-! Build's state: four boxes (builder, rows, sizes, count) -/
structure BuS (W0 w : World) (pb pr ps pc n g : Nat) (vr vs : Value) (st : St) (rows sizes : List Int) (cnt : Nat) : Prop where
 base : Below W0.heap.size W0 w
 b : w.heap[pb]? = some (.cells #[.pointer (some ⟨g, 0, none⟩)] 82 (0, 0))
 r : w.heap[pr]? = some (.cells #[vr] 43 (0, 0))
 s : w.heap[ps]? = some (.cells #[vs] 43 (0, 0))
 c : w.heap[pc]? = some (.cells #[.int .i64 cnt] 3 (0, 0))
 hb : W0.heap.size ≤ pb
 hr : W0.heap.size ≤ pr ∧ pr < n
 hs : W0.heap.size ≤ ps ∧ ps < n
 hc : W0.heap.size ≤ pc ∧ pc < n
 ne : pr ≠ ps
 R : Kd.R (Kd.int .u8) 5 w W0.heap.size (fun k => k < n) vr rows
 S : Kd.R (Kd.int .u8) 5 w W0.heap.size (fun k => k < n) vs sizes
 ap : ∀ k, vr.ownBlock = some k → vs.ownBlock ≠ some k
 bld : BldN n w g st
theorem below_set0 {w0 w : World} {p i : Nat} {u : Value} (h : Below w0.heap.size w0 w) (hp : w0.heap.size ≤ p) : Below w0.heap.size w0 (w.setCell ⟨p,i,none⟩ u):=below_set h hp
theorem BuS.next {W0 w : World} {pb pr ps pc n g : Nat} {vr vs : Value} {st : St} {rows sizes out pt : List Int} {cnt : Nat} (I : BuS W0 w pb pr ps pc n g vr vs st rows sizes cnt)
  {w1 w2 w3 w4 w5 : World} {v1 v2 : Value} {g' : Nat} (hb1 : Below w.heap.size w w1)
  (hO1 : Kd.R (Kd.int .u8) 5 w2 W0.heap.size (fun _=>True) v1 (rows ++ out)) (hg1 : w1.grownBy w2 vr.ownBlock) (hat1 : v1.ownBlock = vr.ownBlock ∨ ∃ b,v1.ownBlock = some b∧w1.heap.size ≤ b)
  (hb3 : Below w2.heap.size w2 w3)
  (hO2 : Kd.R (Kd.int .u8) 5 w4 W0.heap.size (fun _=>True) v2 (sizes ++ pt)) (hg2 : w3.grownBy w4 vs.ownBlock) (hat2 : v2.ownBlock = vs.ownBlock ∨ ∃ b,v2.ownBlock = some b∧w3.heap.size ≤ b) (hB4 : Below W0.heap.size W0 w4)
  (hN : BldN w4.heap.size w5 g' St0) (hb5 : Below w4.heap.size w4 w5) :
  BuS W0 ((((w5.setCell ⟨pr,0,none⟩ v1).setCell ⟨ps,0,none⟩ v2).setCell ⟨pb,0,none⟩ (.pointer (some ⟨g',0,none⟩))).setCell ⟨pc,0,none⟩ (.int .i64 ((cnt + 1 : Nat) : Int))) pb pr ps pc w4.heap.size g' v1 v2 St0 (rows ++ out) (sizes ++ pt) (cnt + 1):=by
 have s1 := hb1.size
 have s2 := hg1.size
 have s3 := hb3.size
 have s4 := hg2.size
 have s5 := hb5.size
 have nR : ∀ (p t : Nat) (cs : Array Value),w.heap[p]? = some (.cells cs t (0,0)) → t ≠ 5 → w5.heap[p]? = some (.cells cs t (0,0)):=by
  intro p t cs hp ht
  have hlt := blk_lt hp
  have e1 : some p ≠ vr.ownBlock := Kd.R_ne I.R hp (fun h => ht h.symm)
  have e2 : some p ≠ vs.ownBlock := Kd.R_ne I.S hp (fun h => ht h.symm)
  rw [hb5.block p (by omega),hg2.block p (by omega) e2,hb3.block p (by omega),hg1.block p (by omega) e1,hb1.block p hlt]
  exact hp
 have r5 := nR pr 43 _ I.r (by decide)
 have q5 := nR ps 43 _ I.s (by decide)
 have b5 := nR pb 82 _ I.b (by decide)
 have c5 := nR pc 3 _ I.c (by decide)
 have lr := blk_lt I.r
 have ls := blk_lt I.s
 have lb := blk_lt I.b
 have lc := blk_lt I.c
 have n1 : pb ≠ pr := blk_ne I.b I.r (by decide)
 have n2 : pb ≠ ps := blk_ne I.b I.s (by decide)
 have n3 : pb ≠ pc := blk_ne I.b I.c (by decide)
 have n4 : pc ≠ pr := blk_ne I.c I.r (by decide)
 have n5 : pc ≠ ps := blk_ne I.c I.s (by decide)
 have n6 := I.ne
 have l1 : ∀ k, v1.ownBlock = some k → k < w2.heap.size := Kd.R_lt hO1
 have l2 : ∀ k, v2.ownBlock = some k → k < w4.heap.size := Kd.R_lt hO2
 have lvs : ∀ k, vs.ownBlock = some k → k < w.heap.size := Kd.R_lt I.S
 have d1 : ∀ k, v1.ownBlock = some k → vs.ownBlock ≠ some k := by
  intro k hk e
  rcases hat1 with h | ⟨b, h, hb⟩
  ·exact I.ap k (h ▸ hk) e
  ·rw [h] at hk; injection hk with hk; have := lvs k e; omega
 have d2 : ∀ k, v1.ownBlock = some k → v2.ownBlock ≠ some k := by
  intro k hk e
  rcases hat2 with h | ⟨b, h, hb⟩
  ·exact d1 k hk (h ▸ e)
  ·rw [h] at e; injection e with e; have := l1 k hk; omega
 have R1 : Kd.R (Kd.int .u8) 5 w5 W0.heap.size (fun _ => True) v1 (rows ++ out) := u8_step hO1 (fun k hk => by
  have := l1 k hk
  rw [hb5.block k (by omega), hg2.block k (by omega) (fun e => d1 k hk e.symm), hb3.block k (by omega)])
 have R2 : Kd.R (Kd.int .u8) 5 w5 W0.heap.size (fun _=>True) v2 (sizes ++ pt):=u8_step hO2 (fun k hk=>hb5.block k (l2 k hk))
 have far : ∀ (v : Value) (xs : List Int),Kd.R (Kd.int .u8) 5 w5 W0.heap.size (fun _=>True) v xs → (∀ k,v.ownBlock = some k → k < w4.heap.size) →
   Kd.R (Kd.int .u8) 5 ((((w5.setCell ⟨pr,0,none⟩ v1).setCell ⟨ps,0,none⟩ v2).setCell ⟨pb,0,none⟩ (.pointer (some ⟨g',0,none⟩))).setCell ⟨pc,0,none⟩ (.int .i64 ((cnt + 1 : Nat) : Int))) W0.heap.size (fun k=>k < w4.heap.size) v xs:=by
  intro v xs hv hl
  have a1 : some pr ≠ v.ownBlock := Kd.R_ne hv r5 (by decide)
  have a2 : some ps ≠ v.ownBlock := Kd.R_ne hv q5 (by decide)
  have a3 : some pb ≠ v.ownBlock := Kd.R_ne hv b5 (by decide)
  have a4 : some pc ≠ v.ownBlock := Kd.R_ne hv c5 (by decide)
  refine u8_ok (u8_step hv (fun k hk => ?_)) hl
  rw [hk] at a1 a2 a3 a4
  rw [Below.heap_setCell _ _ _ k (fun e=>a4 (by rw [e])),Below.heap_setCell _ _ _ k (fun e=>a3 (by rw [e])),Below.heap_setCell _ _ _ k (fun e=>a2 (by rw [e])),Below.heap_setCell _ _ _ k (fun e=>a1 (by rw [e]))]
 refine ⟨?_,?_,?_,?_,?_,?_,?_,?_,?_,n6,far _ _ R1 (fun k hk=>by have:=l1 k hk;omega),far _ _ R2 l2,d2,?_⟩
 ·exact below_set0 (below_set0 (below_set0 (below_set0 (hB4.trans (hb5.mono (by have:=hB4.size;omega))) I.hr.1) I.hs.1) I.hb) I.hc.1
 ·exact blk_far (blk_put (blk_far (blk_far b5 n1 _) n2 _) 0 _ rfl) n3 _
 ·exact blk_far (blk_far (blk_far (blk_put r5 0 _ rfl) n6 _) n1.symm _) n4.symm _
 ·exact blk_far (blk_far (blk_put (blk_far q5 n6.symm _) 0 _ rfl) n2.symm _) n5.symm _
 ·exact blk_put (blk_far (blk_far (blk_far c5 n4 _) n5 _) n3.symm _) 0 _ rfl
 ·exact I.hb
 ·exact ⟨I.hr.1, by omega⟩
 ·exact ⟨I.hs.1, by omega⟩
 ·exact ⟨I.hc.1, by omega⟩
 ·exact (((hN.set (by omega) _).set (by omega) _).set (by omega) _).set (by omega) _
theorem BuS.below {W0 w w' : World} {pb pr ps pc n g : Nat} {vr vs : Value} {st : St} {rows sizes : List Int} {cnt : Nat} (I : BuS W0 w pb pr ps pc n g vr vs st rows sizes cnt) (hb : Below w.heap.size w w') : BuS W0 w' pb pr ps pc n g vr vs st rows sizes cnt :=
 ⟨I.base.trans (hb.mono I.base.size),blk_below I.b hb,blk_below I.r hb,blk_below I.s hb,blk_below I.c hb,I.hb,I.hr,I.hs,I.hc,I.ne,Kd.R_below I.R hb,Kd.R_below I.S hb,I.ap,I.bld.below hb⟩
/-- A row more in the builder. -/
theorem BuS.add {W0 w w' : World} {pb pr ps pc n g : Nat} {vr vs : Value} {st st' : St} {rows sizes : List Int} {cnt : Nat} (I : BuS W0 w pb pr ps pc n g vr vs st rows sizes cnt) (hn : W0.heap.size ≤ n) (hN : BldN n w' g st') (hb : Below n w w') (hO : Oth w w' g) : BuS W0 w' pb pr ps pc n g vr vs st' rows sizes cnt:=by
 obtain ⟨_, _, vb, vp, h3, _, _, _⟩ := I.bld
 refine ⟨I.base.trans (hb.mono hn),?_,(hb.block pr I.hr.2).trans I.r,(hb.block ps I.hs.2).trans I.s,(hb.block pc I.hc.2).trans I.c,I.hb,I.hr,I.hs,I.hc,I.ne,u8_step I.R (fun k hk=>hb.block k (I.R.1 k hk)),u8_step I.S (fun k hk=>hb.block k (I.S.1 k hk)),I.ap,hN⟩
 exact hO.2 pb _ 82 (blk_ne I.b h3 (by decide)) (by decide) I.b
end Go.Proofs.Ytenmljkddhonmaa.MTbl

namespace Go.Proofs.Ytenmljkddhonmaa.MTbl
open Go.RowKit Go.Proofs.Ytenmljkddhonmaa.QTbl Go.Proofs.YtenmljkddhonmaaW.PrintWords Go.Proofs.YtenmljkddhonmaaW.PrintLast Go.Proofs.YtenmljkddhonmaaW.PrintMore
set_option linter.unusedVariables false
set_option linter.unusedSimpArgs false
set_option maxHeartbeats 4000000 in
set_option maxRecDepth 1000000 in
/-- The end of a block: its bytes behind the rows, its length behind the sizes, a new builder. -/
theorem end.calls (W0 w : World) (pb pr ps pc n g : Nat) (vr vs : Value) (st : St) (rows sizes : List Int) (cnt : Nat) (I : BuS W0 w pb pr ps pc n g vr vs st rows sizes cnt)
  (hbl : st.b.length < 3000000) (hpl : st.p.length < 1000000) (hrl : rows.length < 1000000000) (hsl : sizes.length < 1000000000) (hcl : cnt < 1000000) :
  Calls Try.prog 42 #[.pointer (some ⟨pb,0,none⟩),.pointer (some ⟨pr,0,none⟩),.pointer (some ⟨ps,0,none⟩),.pointer (some ⟨pc,0,none⟩)] w fun e w'=>e = .returned (.tuple #[])∧∃ n' g' vr' vs',BuS W0 w' pb pr ps pc n' g' vr' vs' St0 (rows ++ st.out) (sizes ++ put st.out.length) (cnt + 1):=by
 have II := Aside0.mk I
 have cb : w.cell? ⟨pb, 0, none⟩ = some (.pointer (some ⟨g, 0, none⟩)) := (blk_cell I.b 0).trans rfl
 have n1 : ¬ pb = pr := blk_ne I.b I.r (by decide)
 have n2 : ¬ pb = ps := blk_ne I.b I.s (by decide)
 have n3 : ¬ pb = pc := blk_ne I.b I.c (by decide)
 have n4 : ¬ pc = pr := blk_ne I.c I.r (by decide)
 have n5 : ¬ pc = ps := blk_ne I.c I.s (by decide)
 have n6 : ¬ pr = ps := I.ne
 have n1' : ¬ pr = pb := fun h => n1 h.symm
 have n2' : ¬ ps = pb := fun h => n2 h.symm
 have n3' : ¬ pc = pb := fun h => n3 h.symm
 have n4' : ¬ pr = pc := fun h => n4 h.symm
 have n5' : ¬ ps = pc := fun h => n5 h.symm
 have n6' : ¬ ps = pr := fun h => n6 h.symm
 have hB0 : ∀ w1 : World,Below w.heap.size w w1 → Below W0.heap.size W0 w1.drew:=fun w1 h=>below_drew1 (I.base.trans (h.mono I.base.size))
 have HB0 := Aside0.mk hB0
 have hR0 : ∀ w1 : World,Below w.heap.size w w1 → Kd.R (Kd.int .u8) 5 w1.drew W0.heap.size (fun _=>True) vr rows:=fun w1 h=>Kd.R_drew (Kd.R_mono (Kd.R_below I.R h) (fun _ _=>trivial))
 have HR0 := Aside0.mk hR0
 have hS0 : ∀ w1 w2 : World,Below w.heap.size w w1 → w1.drew.grownBy w2 vr.ownBlock → Kd.R (Kd.int .u8) 5 w2 W0.heap.size (fun _=>True) vs sizes:=fun w1 w2 h hg=>Kd.R_mono (u8_step (Kd.R_below I.S h) (fun k hk=>hg.block k (by have:=Kd.R_lt I.S k hk;have:=h.size;show k < w1.heap.size;omega) (fun e=>I.ap k e.symm hk))) (fun _ _=>trivial)
 have HS0 := Aside0.mk hS0
 have hX : ∀ (p t : Nat) (cs : Array Value),w.heap[p]? = some (.cells cs t (0,0)) → t ≠ 5 → some p ≠ vr.ownBlock∧some p ≠ vs.ownBlock:=fun p t cs hp ht=>⟨Kd.R_ne I.R hp (fun h=>ht h.symm),Kd.R_ne I.S hp (fun h=>ht h.symm)⟩
 have KR := Aside0.mk (And.intro I.r (hX pr 43 _ I.r (by decide)))
 have KS := Aside0.mk (And.intro I.s (hX ps 43 _ I.s (by decide)))
 have KB := Aside0.mk (And.intro I.b (hX pb 82 _ I.b (by decide)))
 have KC := Aside0.mk (And.intro I.c (hX pc 3 _ I.c (by decide)))
 have HRL := Aside0.mk hrl
 have HSL := Aside0.mk hsl
 have HCL := Aside0.mk hcl
 clear hB0 hR0 hS0 hX hrl hsl
 have HQ := Aside0.mk (bytesN.calls n w g st I.bld (by omega) (by omega))
 have hol : st.out.length < 5000000 := by rw [out_length]; unfold szB; omega
 have HOL := Aside0.mk hol
 obtain ⟨K, hK⟩ := Put_ev (n := st.out.length) (by omega)
 have HK := Aside0.mk (hK K (Nat.le_refl _))
 have hu43 := Try.underlying43
 have hwr : IntKind.u64.wrap (st.out.length : Int) = (st.out.length : Int) := u64_id (by omega) (by omega)
 clear I hK hol hbl hpl
 generalize st.out = out at *
 go_enter Try.func42, Try.ntmps42
 go_wp2_with (first
  | (go_at_call 43;refine HQ.out.mono ?_;rintro e w1 ⟨v,rfl,hO,hb1⟩;obtain ⟨Ax,cx,rfl⟩:=Kd.R_slice hO;have HX : Aside0 (Kd.C (Kd.int .u8) w1.drew Ax out.length out):=⟨Kd.C_drew (Kd.R_reads' hO).2.2⟩;have HB1:=Aside0.mk hb1;have r1:=(hb1.block pr (blk_lt KR.out.1)).trans KR.out.1;have s1:=(hb1.block ps (blk_lt KS.out.1)).trans KS.out.1;have b1:=(hb1.block pb (blk_lt KB.out.1)).trans KB.out.1;have c1:=(hb1.block pc (blk_lt KC.out.1)).trans KC.out.1;have W1:=Aside0.mk (And.intro r1 (And.intro s1 (And.intro b1 c1)));have cr1 : w1.cell? ⟨pr,0,none⟩ = some vr:=(blk_cell r1 0).trans rfl;have cs1 : w1.cell? ⟨ps,0,none⟩ = some vs:=(blk_cell s1 0).trans rfl;clear hO hb1 r1 s1 b1 c1))
 go_region_law (first
  | (refine Kd.R_append_rows_step (Kd.int .u8) (w0:=W0) W0.heap.size (by rfl) (.tmp 7) (.tmp 8) 43 5 (.int .u8 0) 1 rfl Try.underlying43 info5 rfl (by decide) (by omega) vr rows out _ _ _ (fun _=>True) (fun _=>False) (by rfl) (by rfl) ?aO ?aR (fun _ _ h=>h) (fun _ h=>h.elim) ?aF ?aB ?aS ?aL ?_;(case aO=>exact HR0.out _ HB1.out);(case aR=>exact HX.out);(case aF=>exact fun _ _=>trivial);(case aB=>exact HB0.out _ HB1.out);(case aS=>exact below_size (HB0.out _ HB1.out));(case aL=>have:=HRL.out;have:=HOL.out;omega);intro v1 w2 ho1 hb2 hg1 hat1;obtain ⟨A3,c3,e3⟩:=Kd.R_slice ho1;obtain ⟨nl,hnl⟩ : ∃ nl,Aside0 (nl = (rows ++ out).length):=⟨_,⟨rfl⟩⟩;rw [← hnl.out] at e3;subst e3;have HO1:=Aside0.mk ho1;have HB2:=Aside0.mk hb2;have HG1:=Aside0.mk hg1;have HA1:=Aside0.mk hat1;have r2:=(hg1.block pr (blk_lt W1.out.1) KR.out.2.1).trans W1.out.1;have s2:=(hg1.block ps (blk_lt W1.out.2.1) KS.out.2.1).trans W1.out.2.1;have b2:=(hg1.block pb (blk_lt W1.out.2.2.1) KB.out.2.1).trans W1.out.2.2.1;have c2:=(hg1.block pc (blk_lt W1.out.2.2.2) KC.out.2.1).trans W1.out.2.2.2;have W2:=Aside0.mk (And.intro r2 (And.intro s2 (And.intro b2 c2)));have cs2 : w2.cell? ⟨ps,0,none⟩ = some vs:=(blk_cell s2 0).trans rfl;clear ho1 hb2 hg1 hat1 r2 s2 b2 c2)
  | (go_simp;go_at_call 44;(with_reducible refine (varint_Put.calls K (out.length : Int) (put out.length) _ HK.out).mono ?_);rintro e w3 ⟨v0,rfl,ho,hb3⟩;obtain ⟨Ap,cp,ep⟩:=Kd.R_slice ho;obtain ⟨np,hnp⟩ : ∃ np,Aside0 (np = (put out.length).length):=⟨_,⟨rfl⟩⟩;rw [← hnp.out] at ep;subst ep;have HP3 : Aside0 (Kd.C (Kd.int .u8) w3 Ap np (put out.length)):=⟨by rw [hnp.out];exact (Kd.R_reads' ho).2.2⟩;have HB3:=Aside0.mk hb3;have r3:=(hb3.block pr (blk_lt W2.out.1)).trans W2.out.1;have s3:=(hb3.block ps (blk_lt W2.out.2.1)).trans W2.out.2.1;have b3:=(hb3.block pb (blk_lt W2.out.2.2.1)).trans W2.out.2.2.1;have c3_:=(hb3.block pc (blk_lt W2.out.2.2.2)).trans W2.out.2.2.2;have W3:=Aside0.mk (And.intro r3 (And.intro s3 (And.intro b3 c3_)));have cs3 : w3.cell? ⟨ps,0,none⟩ = some vs:=(blk_cell s3 0).trans rfl;clear ho hb3 r3 s3 b3 c3_)
  | (refine Kd.R_append_rows_step (Kd.int .u8) (w0:=W0) W0.heap.size (by rfl) (.tmp 10) (.tmp 14) 43 5 (.int .u8 0) 1 rfl Try.underlying43 info5 rfl (by decide) (by omega) vs sizes (put out.length) _ _ _ (fun _=>True) (fun _=>False) (by rfl) (by rfl) ?aO ?aR (fun _ _ h=>h) (fun _ h=>h.elim) ?aF ?aB ?aS ?aL ?_;(case aO=>exact Kd.R_below (HS0.out _ _ HB1.out HG1.out) HB3.out);(case aR=>exact HP3.out);(case aF=>exact fun _ _=>trivial);(case aB=>exact below_step HB2.out HB3.out);(case aS=>exact below_size (below_step HB2.out HB3.out));(case aL=>have:=HSL.out;have:=hnp.out;have:=HOL.out;have:=put_length10 (n:=out.length) (by omega);omega);intro v2 w4 ho2 hb4 hg2 hat2;obtain ⟨A4,c4,e4⟩:=Kd.R_slice ho2;obtain ⟨ml,hml⟩ : ∃ ml,Aside0 (ml = (sizes ++ put out.length).length):=⟨_,⟨rfl⟩⟩;rw [← hml.out] at e4;subst e4;have HO2:=Aside0.mk ho2;have HB4:=Aside0.mk hb4;have HG2:=Aside0.mk hg2;have HA2:=Aside0.mk hat2;have r4:=(hg2.block pr (blk_lt W3.out.1) KR.out.2.2).trans W3.out.1;have s4:=(hg2.block ps (blk_lt W3.out.2.1) KS.out.2.2).trans W3.out.2.1;have b4:=(hg2.block pb (blk_lt W3.out.2.2.1) KB.out.2.2).trans W3.out.2.2.1;have c4_:=(hg2.block pc (blk_lt W3.out.2.2.2) KC.out.2.2).trans W3.out.2.2.2;have W4:=Aside0.mk (And.intro r4 (And.intro s4 (And.intro b4 c4_)));clear ho2 hb4 hg2 hat2 r4 s4 b4 c4_)
  | (go_simp;go_at_call 41;refine (newN.calls w4).mono ?_;rintro e w5 ⟨g',rfl,hN,hb5⟩;have HN:=Aside0.mk hN;have HB5:=Aside0.mk hb5;have r5:=(hb5.block pr (blk_lt W4.out.1)).trans W4.out.1;have s5:=(hb5.block ps (blk_lt W4.out.2.1)).trans W4.out.2.1;have b5:=(hb5.block pb (blk_lt W4.out.2.2.1)).trans W4.out.2.2.1;have c5:=(hb5.block pc (blk_lt W4.out.2.2.2)).trans W4.out.2.2.2;have cr5 : w5.cell? ⟨pr,0,none⟩ = some vr:=(blk_cell r5 0).trans rfl;have cs5 : w5.cell? ⟨ps,0,none⟩ = some vs:=(blk_cell s5 0).trans rfl;have cb5 : w5.cell? ⟨pb,0,none⟩ = some (.pointer (some ⟨g,0,none⟩)):=(blk_cell b5 0).trans rfl;have cc5 : w5.cell? ⟨pc,0,none⟩ = some (.int .i64 cnt):=(blk_cell c5 0).trans rfl;have fr5:=blk_frozen r5 0;have fs5:=blk_frozen s5 0;have fb5:=blk_frozen b5 0;have fc5:=blk_frozen c5 0;clear hN hb5 r5 s5 b5 c5))
 all_goals have hwc : wrap64 ((cnt : Int) + 1) = ((cnt + 1 : Nat) : Int):=by rw [wrap64_id (by omega) (by omega)];omega
 all_goals go_wp2
 all_goals refine bodyPost_end (results_none rfl _ _ _) rfl ?_
 all_goals refine ⟨rfl, w4.heap.size, g', .slice A3 nl c3, .slice A4 ml c4, ?_⟩
 all_goals rw [show (cnt : Int) + 1 = ((cnt + 1 : Nat) : Int) by omega]
 all_goals exact BuS.next II.out HB1.out.drew HO1.out HG1.out HA1.out HB3.out HO2.out HG2.out HA2.out HB4.out HN.out HB5.out
end Go.Proofs.Ytenmljkddhonmaa.MTbl

namespace Go.Proofs.Ytenmljkddhonmaa.MTbl
open Go.RowKit Go.Proofs.Ytenmljkddhonmaa.QTbl Go.Proofs.YtenmljkddhonmaaW.PrintWords Go.Proofs.YtenmljkddhonmaaW.PrintLast Go.Proofs.YtenmljkddhonmaaW.PrintMore
set_option linter.unusedVariables false
set_option linter.unusedSimpArgs false
/-! PURE: what Build's loop keeps -/
theorem Text_ev {s : ByteArray} (h : s.size ≤ 1000000) : Ev (fun k => varint_Text.f k s) (put s.size ++ bytesOf s) := by
 unfold varint_Text.f
 rw [u64_id (by omega) (by omega)]
 have hp := put_length10 (n := s.size) (by omega)
 exact Ev.bind (Put_ev (by omega)) (Ev.ite_pos (by omega) (Ev.now _))
structure BInv (l : List S28) (i : Nat) (cs : List (List S28)) (cur : List S28) : Prop where
 cut : cutB [] l = cs ++ cutB cur (l.drop i)
 len : cur.length ≤ i
 okb : ∀ x ∈ cur, okB x
 cnt : cs.length ≤ i
 last : (stOf cur).last.size ≤ 71
 add : (stOf cur).rows = 0 ∨ ∀ y ∈ l.drop i, Op.bytesLess (stOf cur).last.toList (keyS y).toList = true
theorem BInv.start (l : List S28) : BInv l 0 [] [] := ⟨rfl, Nat.le_refl _, by simp, Nat.le_refl _, by decide, .inl rfl⟩
theorem drop_at {l : List S28} {i : Nat} (hi : i < l.length) : l.drop i = l[i] :: l.drop (i + 1):=List.drop_eq_getElem_cons hi
theorem BInv.addB {l : List S28} {i : Nat} {cs : List (List S28)} {cur : List S28} (h : BInv l i cs cur) (hi : i < l.length) : addB (stOf cur) (keyS l[i]) = true:=by
 unfold MTbl.addB
 rcases h.add with h | h
 ·rw [h]; rfl
 ·rw [h l[i] (by rw [drop_at hi]; exact List.mem_cons_self ..), Bool.or_true]
theorem BInv.bounds {l : List S28} {i : Nat} {cs : List (List S28)} {cur : List S28} (h : BInv l i cs cur) (hi : i ≤ 1000) : (stOf cur).rows ≤ 1000∧(stOf cur).b.length ≤ 2200000∧(stOf cur).p.length ≤ 4000:=by
 obtain ⟨h1, h2, h3⟩ := addTs_bounds cur St0 h.okb
 have e1 : St0.b.length = 0 := rfl
 have e2 : St0.p.length = 0 := rfl
 have e3 : St0.rows = 0 := rfl
 have := h.len
 unfold stOf
 omega
theorem BInv.cut_ {l : List S28} {i : Nat} {cs : List (List S28)} {cur : List S28} (h : BInv l i cs cur) (hi : i < l.length) (hc : 200 ≤ szB (stOf (cur ++ [l[i]])) ∨ i + 1 = l.length) : BInv l (i + 1) (cs ++ [cur ++ [l[i]]]) []:=by
 refine ⟨?_,Nat.zero_le _,by simp,by rw [List.length_append,List.length_singleton];have:=h.cnt;omega,by decide,.inl rfl⟩
 rw [h.cut, drop_at hi]
 rw [show cutB cur (l[i] :: l.drop (i + 1)) = (cur ++ [l[i]]) :: cutB [] (l.drop (i + 1)) by
  show (if _ then _ else _) = _
  rw [if_pos]
  rcases hc with h | h
  ·exact .inl h
  ·exact .inr (List.drop_eq_nil_of_le (by omega))]
 simp
theorem BInv.go_ {l : List S28} {i : Nat} {cs : List (List S28)} {cur : List S28} (h : BInv l i cs cur) (hs : l.Pairwise srtR) (ho : ∀ x ∈ l,okB x) (hi : i < l.length) (h1 : ¬ 200 ≤ szB (stOf (cur ++ [l[i]]))) (h2 : i + 1 ≠ l.length) : BInv l (i + 1) cs (cur ++ [l[i]]):=by
 have hx := ho l[i] (List.getElem_mem hi)
 refine ⟨?_,by rw [List.length_append,List.length_singleton];have:=h.len;omega,?_,by have:=h.cnt;omega,?_,.inr (fun y hy=>?_)⟩
 ·rw [h.cut, drop_at hi]
  rw [show cutB cur (l[i] :: l.drop (i + 1)) = cutB (cur ++ [l[i]]) (l.drop (i + 1)) by
   show (if _ then _ else _) = _
   rw [if_neg]
   rintro (h | h)
   ·exact h1 h
   ·have := List.drop_eq_nil_iff.1 h; omega]
 ·intro x hxm
  rcases List.mem_append.1 hxm with h3 | h3
  ·exact h.okb x h3
  ·rw [List.mem_singleton.1 h3]; exact hx
 ·rw [stOf_snoc]; exact keyS_le hx.1
 ·rw [stOf_snoc]
  have hp : (l.drop i).Pairwise srtR := hs.drop
  rw [drop_at hi] at hp
  exact keyS_lt hx.1 (ho y (List.mem_of_mem_drop hy)).1 ((List.pairwise_cons.1 hp).1 y hy).1
theorem BInv.end_ {l : List S28} {cs : List (List S28)} {cur : List S28} (h : BInv l l.length cs cur) : cutB [] l = cs:=by
 have := h.cut
 rw [List.drop_length] at this
 rw [this]; simp [cutB]
theorem BInv.rows_le {l : List S28} {i : Nat} {cs : List (List S28)} {cur : List S28} (h : BInv l i cs cur) (ho : ∀ x ∈ l,okB x) : (cs.flatMap blk).length ≤ 2400 * i∧(cs.flatMap (fun c=>put (blk c).length)).length ≤ 10 * i:=by
 have hm : ∀ c ∈ cs,(blk c).length < 2400:=fun c hc=>blk_length ho (by rw [h.cut];exact List.mem_append_left _ hc)
 have h1 := flatMap_length_le blk 2400 cs (fun c hc => Nat.le_of_lt (hm c hc))
 have h2:=flatMap_length_le (fun c=>put (blk c).length) 10 cs (fun c hc=>by have:=hm c hc;exact put_length10 (by omega))
 have := Nat.mul_le_mul_right 2400 h.cnt
 have := Nat.mul_le_mul_right 10 h.cnt
 omega
end Go.Proofs.Ytenmljkddhonmaa.MTbl

/- The order of entries: ikey.Less and the reference's Less tell the same. -/
namespace Go.Proofs.Ytenmljkddhonmaa.QTbl
open Go.RowKit Go.Proofs.Ytenmljkddhonmaa.MTbl Go.Proofs.Ytenmljkddhonmaa.QTbl Go.Proofs.YtenmljkddhonmaaW.PrintWords Go.Proofs.YtenmljkddhonmaaW.PrintLast Go.Proofs.YtenmljkddhonmaaW.PrintMore
set_option linter.unusedVariables false
set_option linter.unusedSimpArgs false
theorem cmpB : ∀ a b : List UInt8,(Lib.compareBytes a b < 0 ↔ Op.bytesLess a b = true)∧(Lib.compareBytes a b = 0 ↔ a = b)
 | [], [] => by simp [Lib.compareBytes, Op.bytesLess]
 | [], _ :: _ => by simp [Lib.compareBytes, Op.bytesLess]
 | _ :: _, [] => by simp [Lib.compareBytes, Op.bytesLess]
 | x :: a, y :: b => by
  have ih := cmpB a b
  unfold Lib.compareBytes
  unfold Op.bytesLess
  by_cases h1 : x < y
  ·have hne : x ≠ y := fun e => by subst e; exact absurd h1 (UInt8.lt_irrefl x)
   simp [h1, hne]
  ·by_cases h2 : y < x
   ·have hne : x ≠ y := fun e => by subst e; exact absurd h2 (UInt8.lt_irrefl x)
    simp [h1, h2, hne]
   ·have he : x = y := UInt8.le_antisymm (UInt8.not_lt.1 h2) (UInt8.not_lt.1 h1)
    subst he
    simp [UInt8.lt_irrefl, ih.1, ih.2]
theorem Less_eq (a0 : ByteArray) (a1 a2 : Int) (a3 a4 : ByteArray) (b0 : ByteArray) (b1 b2 : Int) (b3 b4 : ByteArray) : ∃ r,ikey_Less.f a0 a1 a2 a3 a4 b0 b1 b2 b3 b4 = some r∧incipitref12_Less.f a0 a1 a2 a3 a4 b0 b1 b2 b3 b4 = some r:=by
 have h := cmpB a0.data.toList b0.data.toList
 have hn1 : ∀ x : Int, cmp_isNaN_int64.f x = some false := fun x => by simp [cmp_isNaN_int64.f]
 have hn2 : ∀ x : Int, cmp_isNaN_int.f x = some false := fun x => by simp [cmp_isNaN_int.f]
 simp only [ikey_Less.f,ikey_Compare.f,strings_Compare.f,cmp_Compare_int64.f,cmp_Compare_int.f,hn1,hn2,incipitref12_Less.f,Option.bind_some,Lib.toList_data,Bool.false_eq_true,if_false]
 generalize Lib.compareBytes a0.data.toList b0.data.toList = c at h ⊢
 by_cases e : a0.data.toList = b0.data.toList
 ·have c0 := h.2.2 e
  rw [if_pos c0, if_pos e]
  by_cases e1 : a1 = b1
  ·subst e1
   simp only [Int.lt_irrefl, if_false, gt_iff_lt, Option.bind_some, if_true]
   by_cases l : b2 < a2
   ·refine ⟨true, ?_, ?_⟩ <;> simp [l]
   ·by_cases l2 : a2 < b2
    ·refine ⟨false, ?_, ?_⟩ <;> simp [l, l2]
    ·refine ⟨false, ?_, ?_⟩ <;> simp [l, l2]
  ·rw [if_neg e1]
   by_cases l : b1 < a1
   ·refine ⟨true, ?_, ?_⟩ <;> simp [l]
   ·have l2 : b1 > a1 := by omega
    refine ⟨false, ?_, ?_⟩ <;> simp [l, l2]
 ·have c0 : ¬ c = 0 := fun z => e (h.2.1 z)
  rw [if_neg c0, if_neg e]
  refine ⟨decide (c < 0), rfl, ?_⟩
  congr 1
  rw [Bool.eq_iff_iff, decide_eq_true_eq]
  exact h.1.symm
end Go.Proofs.Ytenmljkddhonmaa.QTbl

namespace Go.Proofs.Ytenmljkddhonmaa.MTbl
open Go.RowKit Go.Proofs.Ytenmljkddhonmaa.QTbl Go.Proofs.YtenmljkddhonmaaW.PrintWords Go.Proofs.YtenmljkddhonmaaW.PrintLast Go.Proofs.YtenmljkddhonmaaW.PrintMore
set_option linter.unusedVariables false
set_option linter.unusedSimpArgs false
/-! PURE: which entries may be a table's -/
def okM (x : S28) : Bool:=(decide (x.f2 = 1) || decide (x.f2 = 0)) && decide (1 ≤ x.f1) && decide (x.f1 ≤ 1125899906842624) && !(decide (x.f2 = 0) && (x.f4.toList != []))
def mayP (p x : S28) : Bool := ltS p x && !(decide (p.f0.toList = x.f0.toList) && decide (p.f1 = x.f1))
def mayL : Option S28 → List S28 → Bool
 | _, [] => true
 | none, x :: t => okM x && mayL (some x) t
 | some p, x :: t => okM x && (mayP p x && mayL (some x) t)
theorem Less_lt3 (a0 : ByteArray) (a1 a2 : Int) (a3 a4 : ByteArray) (b0 : ByteArray) (b1 b2 : Int) (b3 b4 : ByteArray) : ikey_Less.f a0 a1 a2 a3 a4 b0 b1 b2 b3 b4 = some (lt3 a0 a1 a2 b0 b1 b2):=by
 obtain ⟨r, h1, h2⟩ := Less_eq a0 a1 a2 a3 a4 b0 b1 b2 b3 b4
 rw [h1, ← h2]
 unfold incipitref12_Less.f lt3
 by_cases e : a0.toList = b0.toList
 ·rw [if_pos e, if_pos e]
  by_cases e1 : a1 = b1
  ·rw [if_pos e1, if_pos e1]
  ·rw [if_neg e1, if_neg e1]
 ·rw [if_neg e, if_neg e]
def prevOf (l : List S28) (i : Nat) : Option S28 := if i = 0 then none else some (rd_T28 l ((i : Int) - 1))
theorem may_l0 (l : List S28) (hl : l.length < 1000000) (d : Nat) : ∀ i : Nat,l.length - i = d → i ≤ l.length → Ev (fun k=>table_may.l0 k l l (l.length : Int) (i : Int)) (mayL (prevOf l i) (l.drop i) && decide ((l.length : Int) > 0)):=by
 induction d with
 | zero =>
  intro i hd hi
  refine Ev.succ ?_
  simp only [table_may.l0]
  rw [List.drop_eq_nil_of_le (by omega)]
  refine Ev.ite_neg (by omega) ?_
  have : mayL (prevOf l i) [] = true := by cases prevOf l i <;> rfl
  rw [this, Bool.true_and]
  exact Ev.now _
 | succ d ih =>
  intro i hd hi
  have hlt : i < l.length := by omega
  have hj : ∀ (x39 : Bool) (x : S28),x = l[i] → x39 = !okM x → Ev (fun k=>table_may.j1 k l (i : Int) l (l.length : Int) (i : Int) x39 x.f0 x.f1 x.f2 x.f3 x.f4) (mayL (prevOf l i) (l.drop i) && decide ((l.length : Int) > 0)):=by
   intro x39 x hx h39
   refine Ev.succ ?_
   simp only [table_may.j1]
   rw [List.drop_eq_getElem_cons hlt, ← hx]
   have hih := ih (i + 1) (by omega) (by omega)
   have hpv : prevOf l (i + 1) = some x := by
    unfold prevOf
    rw [if_neg (by omega), show ((i + 1 : Nat) : Int) - 1 = (i : Int) by omega, rd_T28_nat l i hlt, hx]
   rw [hpv] at hih
   have en : wrap64 ((i : Int) + 1) = ((i + 1 : Nat) : Int) := by rw [wrap64_id (by omega) (by omega)]; omega
   rw [en]
   cases hok : okM x with
   | false =>
    rw [hok] at h39
    refine Ev.ite_pos (by rw [h39]; rfl) ?_
    have : mayL (prevOf l i) (x :: l.drop (i + 1)) = false := by cases prevOf l i <;> simp [mayL, hok]
    rw [this, Bool.false_and]
    exact Ev.now _
   | true =>
    rw [hok] at h39
    refine Ev.ite_neg (by rw [h39]; simp) ?_
    by_cases h0 : i = 0
    ·refine Ev.ite_neg (by omega) ?_
     have : mayL (prevOf l i) (x :: l.drop (i + 1)) = mayL (some x) (l.drop (i + 1)):=by rw [h0];simp [prevOf,mayL,hok]
     rw [this]
     exact hih
    ·rw [wrap64_id (n := (i : Int) - 1) (by omega) (by omega)]
     refine Ev.ite_pos (by omega) (Ev.ite_pos (by omega) (Ev.ite_pos (by omega) ?_))
     have hp : prevOf l i = some (rd_T28 l ((i : Int) - 1)) := by unfold prevOf; rw [if_neg h0]
     rw [hp]
     generalize rd_T28 l ((i : Int) - 1) = p
     have hm : mayL (some p) (x :: l.drop (i + 1)) = (mayP p x && mayL (some x) (l.drop (i + 1))):=by simp [mayL,hok]
     rw [hm]
     refine Ev.bind (Ev.same (Less_lt3 p.f0 p.f1 p.f2 p.f3 p.f4 x.f0 x.f1 x.f2 x.f3 x.f4)) ?_
     cases hlt3 : lt3 p.f0 p.f1 p.f2 x.f0 x.f1 x.f2 with
     | false =>
      have : mayP p x = false := by unfold mayP ltS; rw [hlt3]; rfl
      rw [this]
      refine Ev.ite_neg (by simp) ?_
      exact Ev.now _
     | true =>
      refine Ev.ite_pos rfl ?_
      by_cases e1 : p.f0.toList = x.f0.toList
      ·refine Ev.ite_pos e1 ?_
       by_cases e2 : p.f1 = x.f1
       ·have : mayP p x = false := by unfold mayP; simp [e1, e2]
        rw [this]
        exact Ev.ite_pos e2 (Ev.now _)
       ·have : mayP p x = true := by unfold mayP ltS; simp [hlt3, e2]
        rw [this, Bool.true_and]
        exact Ev.ite_neg e2 hih
      ·have : mayP p x = true := by unfold mayP ltS; simp [hlt3, e1]
       rw [this, Bool.true_and]
       exact Ev.ite_neg e1 hih
  refine Ev.succ ?_
  simp only [table_may.l0]
  refine Ev.ite_pos (by omega) (Ev.ite_pos (by omega) (Ev.ite_pos (by omega) ?_))
  rw [rd_T28_nat l i hlt]
  have hj' := fun b => hj b l[i] rfl
  generalize l[i] = x at hj'
  by_cases c1 : x.f2 = 1
  ·refine Ev.ite_pos c1 ?_
   by_cases c2 : x.f1 < 1
   ·exact Ev.ite_pos c2 (hj' true (by unfold okM; simp; omega))
   ·refine Ev.ite_neg c2 ?_
    by_cases c3 : x.f1 > 1125899906842624
    ·exact Ev.ite_pos c3 (hj' true (by unfold okM; simp; omega))
    ·exact Ev.ite_neg c3 (Ev.ite_neg (by omega) (hj' false (by unfold okM; simp [c1]; omega)))
  ·refine Ev.ite_neg c1 ?_
   by_cases c4 : x.f2 = 0
   ·refine Ev.ite_pos c4 ?_
    by_cases c2 : x.f1 < 1
    ·exact Ev.ite_pos c2 (hj' true (by unfold okM; simp; omega))
    ·refine Ev.ite_neg c2 ?_
     by_cases c3 : x.f1 > 1125899906842624
     ·exact Ev.ite_pos c3 (hj' true (by unfold okM; simp; omega))
     ·refine Ev.ite_neg c3 (hj' _ ?_)
      unfold okM
      have k2 : 1 ≤ x.f1 := by omega
      have k3 : x.f1 ≤ 1125899906842624 := by omega
      simp [c4, k2, k3]
   ·exact Ev.ite_neg c4 (hj' true (by unfold okM; simp [c1, c4]))
theorem may_ev (l : List S28) (hl : l.length < 1000000) : Ev (fun k=>table_may.f k l) (mayL none l && decide ((l.length : Int) > 0)):=may_l0 l hl l.length 0 rfl (Nat.zero_le _)
theorem mayL_of : ∀ (l : List S28) (p : Option S28),l.Pairwise srtR → (∀ x ∈ l,okM x = true) → (∀ q,p = some q → ∀ x ∈ l,srtR q x) → mayL p l = true
 | [], p, _, _, _ => by cases p <;> rfl
 | x :: t, p, hl, ho, hp => by
  obtain ⟨h1, h2⟩ := List.pairwise_cons.1 hl
  have ih:=mayL_of t (some x) h2 (fun y hy=>ho y (List.mem_cons_of_mem _ hy)) (fun q hq y hy=>by cases hq;exact h1 y hy)
  have hx := ho x (List.mem_cons_self ..)
  cases p with
  | none => simp [mayL, hx, ih]
  | some q =>
   obtain ⟨a1, a2⟩ := hp q rfl x (List.mem_cons_self ..)
   have : mayP q x = true := by
    unfold mayP; rw [a1]
    by_cases e1 : q.f0.toList = x.f0.toList
    ·have e2 : ¬ q.f1 = x.f1 := fun e => a2 ⟨e1, e⟩
     simp [e2]
    ·simp [e1]
   simp [mayL, hx, ih, this]
end Go.Proofs.Ytenmljkddhonmaa.MTbl

/- Filters: what was set stays set; hashes and places are told. -/
namespace Go.Proofs.Ytenmljkddhonmaa.QTbl
open Go.RowKit Go.Proofs.Ytenmljkddhonmaa.MTbl Go.Proofs.Ytenmljkddhonmaa.QTbl Go.Proofs.YtenmljkddhonmaaW.PrintWords Go.Proofs.YtenmljkddhonmaaW.PrintLast Go.Proofs.YtenmljkddhonmaaW.PrintMore
set_option linter.unusedVariables false
set_option linter.unusedSimpArgs false
theorem bb : ∀ y,y < 256 → ∀ i,i < 8 → ∀ j,j < 8 → ((Go.bits .and .u8 (Go.bits .or .u8 ((y : Nat) : Int) (2 ^ i % 256)) (2 ^ j % 256) == 0) = ((Go.bits .and .u8 (y : Int) (2 ^ j % 256) == 0) && !(i == j)))∧0 ≤ Go.bits .or .u8 (y : Int) (2 ^ i % 256)∧Go.bits .or .u8 (y : Int) (2 ^ i % 256) < 256:=by decide +kernel
/-- A row of bytes. -/
def rowB (b : List Int) : Prop := ∀ x ∈ b, 0 ≤ x ∧ x < 256
theorem rowB_get {b : List Int} (h : rowB b) (i : Nat) : ∃ y : Nat, y < 256 ∧ b.getD i 0 = (y : Int) := by
 rw [List.getD_eq_getElem?_getD]
 cases e : b[i]? with
 | none => exact ⟨0, by omega, rfl⟩
 | some x =>
  have := h x (List.mem_of_getElem? e)
  exact ⟨x.toNat, by omega, by simp only [Option.getD_some]; omega⟩
theorem setBit_len (b : List Int) (p : Int) : (setBit b p).length = b.length := by unfold setBit; rw [List.length_set]
theorem setBit_row {b : List Int} (h : rowB b) (p : Int) : rowB (setBit b p) := by
 intro x hx
 unfold setBit at hx
 rcases List.mem_or_eq_of_mem_set hx with hx | rfl
 ·exact h x hx
 ·obtain ⟨y, hy, e⟩ := rowB_get h (p / 8).toNat
  rw [e]
  exact (bb y hy (p % 8).toNat (by omega) 0 (by omega)).2
theorem setBit_keep {b : List Int} (h : rowB b) (p q : Int) (hb : bitSet b p = true) : bitSet (setBit b q) p = true:=by
 unfold bitSet setBit at *
 by_cases e : (q / 8).toNat = (p / 8).toNat
 ·by_cases l : (p / 8).toNat < b.length
  ·rw [e, List.getD_eq_getElem?_getD (l := b.set _ _), List.getElem?_set_self l, Option.getD_some]
   obtain ⟨y, hy, e2⟩ := rowB_get h (p / 8).toNat
   rw [e2] at hb ⊢
   rw [(bb y hy (q % 8).toNat (by omega) (p % 8).toNat (by omega)).1]
   simp only [Bool.not_eq_true', Bool.not_and, Bool.not_not, Bool.or_eq_true] at hb ⊢
   rw [hb]; simp
  ·rw [List.set_eq_of_length_le (by omega)]; exact hb
 ·rw [List.getD_eq_getElem?_getD (l := b.set _ _), List.getElem?_set_ne e, ← List.getD_eq_getElem?_getD]; exact hb
theorem setBit_self {b : List Int} (h : rowB b) (p : Int) (hp : (p / 8).toNat < b.length) : bitSet (setBit b p) p = true:=by
 unfold bitSet setBit
 rw [List.getD_eq_getElem?_getD (l := b.set _ _), List.getElem?_set_self hp, Option.getD_some]
 obtain ⟨y, hy, e2⟩ := rowB_get h (p / 8).toNat
 rw [e2, (bb y hy (p % 8).toNat (by omega) (p % 8).toNat (by omega)).1]
 simp
theorem fold_row : ∀ (ps b : List Int), rowB b → rowB (ps.foldl setBit b) ∧ (ps.foldl setBit b).length = b.length
 | [], b, h => ⟨h, rfl⟩
 | p :: t, b, h => by
  have := fold_row t (setBit b p) (setBit_row h p)
  exact ⟨this.1, this.2.trans (setBit_len b p)⟩
theorem fold_keep : ∀ (ps b : List Int) (p : Int), rowB b → bitSet b p = true → bitSet (ps.foldl setBit b) p = true
 | [], _, _, _, hb => hb
 | q :: t, b, p, h, hb => fold_keep t (setBit b q) p (setBit_row h q) (setBit_keep h p q hb)
theorem fold_self : ∀ (ps b : List Int),rowB b → (∀ p ∈ ps,(p / 8).toNat < b.length) → ∀ p ∈ ps,bitSet (ps.foldl setBit b) p = true
 | [], _, _, _, p, hp => by cases hp
 | q :: t, b, h, hl, p, hp => by
  rcases List.mem_cons.1 hp with rfl | hp
  ·exact fold_keep t _ _ (setBit_row h p) (setBit_self h p (hl p (List.mem_cons_self ..)))
  ·exact fold_self t (setBit b q) (setBit_row h q) (fun x hx=>by rw [setBit_len];exact hl x (List.mem_cons_of_mem _ hx)) p hp
theorem u64_nonneg (x : Int) : 0 ≤ IntKind.u64.wrap x:=by simp only [IntKind.wrap,IntKind.signed,IntKind.bits,Bool.false_and,Bool.false_eq_true,if_false];omega
theorem Hash_l0 (s : ByteArray) (hs : s.size ≤ 9223372036854775807) (d : Nat) : ∀ (i : Nat) (h : Int),s.size - i = d → 0 ≤ h → ∃ r,0 ≤ r∧Ev (fun k=>ckey_Hash.l0 k s h (s.size : Int) (i : Int)) r:=by
 induction d with
 | zero =>
  intro i h hd h0
  refine ⟨h, h0, Ev.succ ?_⟩
  simp only [ckey_Hash.l0]
  exact Ev.ite_neg (by omega) (Ev.now _)
 | succ d ih =>
  intro i h hd h0
  obtain ⟨r,hr,he⟩:=ih (i + 1) (IntKind.u64.wrap ((Go.bits .xor .u64 h (IntKind.u64.wrap (bt s (i : Int)))) * 1099511628211)) (by omega) (u64_nonneg _)
  refine ⟨r, hr, Ev.succ ?_⟩
  simp only [ckey_Hash.l0]
  rw [wrap64_id (n := (i : Int) + 1) (by omega) (by omega)]
  exact Ev.ite_pos (by omega) (Ev.ite_pos (by omega) (Ev.ite_pos (by omega) he))
theorem Hash_ev (s : ByteArray) (hs : s.size ≤ 9223372036854775807) : ∃ r,0 ≤ r∧Ev (fun k=>ckey_Hash.f k s) r:=Hash_l0 s hs s.size 0 14695981039346656037 rfl (by omega)
theorem Rot_some (h : Int) : ∃ d, bits_RotateLeft64.f h (-17) = some d := by
 unfold bits_RotateLeft64.f
 rw [if_pos (by decide +kernel), if_pos (by decide +kernel)]
 exact ⟨_, rfl⟩
theorem places_ev (s : ByteArray) (size : Int) (hs : s.size ≤ 9223372036854775807) (hz : 0 < size) : ∃ ps,Ev (fun k=>placesF k s size) ps∧∀ p ∈ ps,0 ≤ p∧p < size:=by
 obtain ⟨h, h0, he⟩ := Hash_ev s hs
 obtain ⟨d, hd⟩ := Rot_some h
 refine ⟨plc h d size 6, ?_, (plc_props d size hz 6 h h0).2⟩
 unfold placesF
 refine Ev.bind he ?_
 rw [hd]
 exact Ev.same (by rw [Option.bind_some, if_pos ⟨hz, h0⟩])
theorem Ev.det {α : Type} {g : Nat → Option α} {a b : α} (h : Ev g a) (h' : Ev g b) : a = b := by
 obtain ⟨K, h⟩ := h
 obtain ⟨K', h'⟩ := h'
 have h1 := h (max K K') (Nat.le_max_left _ _)
 have h2 := h' (max K K') (Nat.le_max_right _ _)
 rw [h1] at h2
 exact Option.some.inj h2
/-- What was made of a list of texts: each text's bits are set. -/
theorem make_ev (S : Int) (h8 : 1 ≤ S) : ∀ (l : List ByteArray) (b : List Int),(∀ x ∈ l,x.size ≤ 9223372036854775807) → rowB b → (S.toNat < b.length) →
  ∃ b',Ev (fun k=>makeL k S l b) b'∧rowB b'∧b'.length = b.length∧(∀ p,bitSet b p = true → bitSet b' p = true)∧∀ x ∈ l,∃ ps,Ev (fun k=>placesF k x (S * 8)) ps∧(∀ p ∈ ps,0 ≤ p∧p < S * 8)∧∀ p ∈ ps,bitSet b' p = true
 | [], b, _, hb, _ => ⟨b, Ev.now _, hb, rfl, fun _ h => h, fun x hx => by cases hx⟩
 | x :: t, b, hl, hb, hn => by
  obtain ⟨ps, e1, hp⟩ := places_ev x (S * 8) (hl x (List.mem_cons_self ..)) (by omega)
  have hr := fold_row ps b hb
  obtain ⟨b',e2,h1,h2,h3,h4⟩:=make_ev S h8 t (ps.foldl setBit b) (fun y hy=>hl y (List.mem_cons_of_mem _ hy)) hr.1 (by rw [hr.2];exact hn)
  refine ⟨b', ?_, h1, h2.trans hr.2, fun p hp => h3 p (fold_keep ps b p hb hp), fun y hy => ?_⟩
  ·simp only [makeL]; exact Ev.bind e1 e2
  ·rcases List.mem_cons.1 hy with rfl | hy
   ·exact ⟨ps, e1, hp, fun p h => h3 p (fold_self ps b hb (fun q hq => by have := hp q hq; omega) p h)⟩
   ·exact h4 y hy
end Go.Proofs.Ytenmljkddhonmaa.QTbl

namespace Go.Proofs.Ytenmljkddhonmaa.MTbl
open Go.RowKit Go.Proofs.Ytenmljkddhonmaa.QTbl Go.Proofs.YtenmljkddhonmaaW.PrintWords Go.Proofs.YtenmljkddhonmaaW.PrintLast Go.Proofs.YtenmljkddhonmaaW.PrintMore
set_option linter.unusedVariables false
set_option linter.unusedSimpArgs false
/-! PURE: a filter tells of none of its texts that it is not there -/
theorem maxLen_eq : maxLen = 9223372036854775807 := by decide +kernel
theorem flt_ok (L : List ByteArray) (hL : L.length < 10000) (hs : ∀ x ∈ L, x.size ≤ 9223372036854775807) :
  ∃ flt,Ev (fun k=>bloom_Make.f k L) flt∧flt.length = (sizeM L.length + 1).toNat∧Bytes flt∧∀ s : ByteArray,s.size ≤ maxLen → ∃ rb,Ev (fun k=>bloom_May.f k flt s) rb∧(s ∈ L → rb = true):=by
 obtain ⟨S, hS⟩ : ∃ S, S = sizeM L.length := ⟨_, rfl⟩
 have hr := sizeM_range L.length (by omega)
 rw [← hS] at hr
 have hSb : S < 100000 := by rw [hS]; unfold sizeM; split <;> omega
 obtain ⟨b',e1,h1,h2,_,h4⟩:=make_ev S (by omega) L (List.replicate (S + 1).toNat 0) hs (fun x hx=>by rw [List.mem_replicate] at hx;omega) (by rw [List.length_replicate];omega)
 rw [List.length_replicate] at h2
 have hlen : (b'.set S.toNat 6).length = (S + 1).toNat := by rw [List.length_set]; exact h2
 refine ⟨b'.set S.toNat 6, ?_, by rw [hlen, hS], ?_, fun s hsz => ?_⟩
 ·unfold bloom_Make.f
  rw [← hS]
  exact Ev.ite_pos (by omega) (Ev.bind e1 (Ev.now _))
 ·intro c hc
  rcases List.mem_or_eq_of_mem_set hc with h | h
  ·exact h1 c h
  ·rw [h]; omega
 ·obtain ⟨ps, p1, p2⟩ := places_ev s (S * 8) (by rw [maxLen_eq] at hsz; exact hsz) (by omega)
  refine ⟨ps.all (bitSet (b'.set S.toNat 6)), ?_, fun hm => ?_⟩
  ·unfold bloom_May.f
   rw [hlen]
   have e1 : (((S + 1).toNat : Int) - 1) = S := by omega
   have e2 : (S + 1).toNat - 1 = S.toNat := by omega
   rw [e1, e2]
   refine Ev.ite_pos (by omega) (Ev.ite_neg (by omega) ?_)
   rw [List.getD_eq_getElem?_getD, List.getElem?_set_self (by omega), Option.getD_some]
   exact Ev.ite_pos rfl (Ev.bind p1 (Ev.now _))
  ·obtain ⟨qs, q1, q2, q3⟩ := h4 s hm
   have hpq : ps = qs := Ev.det p1 q1
   subst hpq
   rw [List.all_eq_true]
   intro p hpp
   have h1 := q3 p hpp
   have h2 := q2 p hpp
   unfold bitSet at h1 ⊢
   rw [List.getD_eq_getElem?_getD, List.getElem?_set_ne (by omega), ← List.getD_eq_getElem?_getD]
   exact h1
/-- The forms of entries, equal ones behind one another once. -/
def comp : List ByteArray → List ByteArray
 | [] => []
 | [x] => [x]
 | x :: y :: t => if x.toList = y.toList then comp (y :: t) else x :: comp (y :: t)
end Go.Proofs.Ytenmljkddhonmaa.MTbl
