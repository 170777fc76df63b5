import Derived.Test.YtenmljkddhonmaaY9
import Derived.Lib.Strings
import Derived.Shelf.Spec.RuneCount
import Derived.Test.YtenmljkddhonmaaY5
import Derived.Test.YtenmljkddhonmaaY1
import Derived.Test.YtenmljkddhonmaaY8
import Derived.Outline
import Derived.Deep.QuietTactic
import Derived.BigQuiet
import Derived.Deep.LoopGhost
import Derived.BigRegion
import Derived.Deep.RegionLaw
namespace Go.Proofs.Ytenmljkddhonmaa.MTbl
open Go.RowKit Go.Proofs.Ytenmljkddhonmaa.QTbl Go.Proofs.YtenmljkddhonmaaW.PrintWords Go.Proofs.YtenmljkddhonmaaW.PrintLast Go.Proofs.YtenmljkddhonmaaW.PrintMore
set_option linter.unusedVariables false
set_option linter.unusedSimpArgs false
/-- How much two rows begin with alike. -/
def cpl : List Int → List Int → Nat
 | x :: a, y :: b => if x = y then cpl a b + 1 else 0
 | _, _ => 0
theorem cpl_le : ∀ a b : List Int, cpl a b ≤ a.length ∧ cpl a b ≤ b.length
 | [], _ => by simp [cpl]
 | _ :: _, [] => by simp [cpl]
 | x :: a, y :: b => by
  have := cpl_le a b
  unfold cpl
  split <;> simp <;> omega
theorem bt_getD (s : ByteArray) (i : Nat) : bt s (i : Int) = (bytesOf s).getD i 0 := by
 rw [← rd_bytesOf, rd, Int.toNat_natCast]
theorem dropD (l : List Int) (i : Nat) (h : i < l.length) : l.drop i = l.getD i 0 :: l.drop (i + 1) := by
 rw [List.drop_eq_getElem_cons h, List.getD_eq_getElem?_getD, List.getElem?_eq_getElem h]; rfl
theorem shared_l0 (a b : ByteArray) (ha : a.size < 4611686018427387904) (d : Nat) : ∀ i : Nat,a.size - i = d → i ≤ a.size → i ≤ b.size → Ev (fun k=>block_shared.l0 k a b (i : Int)) ((i + cpl ((bytesOf a).drop i) ((bytesOf b).drop i) : Nat) : Int):=by
 induction d with
 | zero =>
  intro i h h1 h2
  refine Ev.succ ?_
  simp only [block_shared.l0]
  refine Ev.ite_neg (by omega) ?_
  rw [List.drop_eq_nil_of_le (by rw [bytesOf_length]; omega), cpl]
  exact Ev.now _
  simp
 | succ d ih =>
  intro i h h1 h2
  refine Ev.succ ?_
  simp only [block_shared.l0]
  refine Ev.ite_pos (by omega) ?_
  by_cases hb : i < b.size
  ·refine Ev.ite_pos (by omega) (Ev.ite_pos (by omega) ?_)
   rw [dropD (bytesOf a) i (by rw [bytesOf_length]; omega), dropD (bytesOf b) i (by rw [bytesOf_length]; omega), cpl]
   by_cases he : (bytesOf a).getD i 0 = (bytesOf b).getD i 0
   ·rw [if_pos he]
    refine Ev.ite_pos (by rw [bt_getD, bt_getD]; exact he) ?_
    have := ih (i + 1) (by omega) (by omega) (by omega)
    rw [wrap64_id (by omega) (by omega)]
    refine Ev.congr (fun k=>?_) (by rw [show i + (cpl ((bytesOf a).drop (i + 1)) ((bytesOf b).drop (i + 1)) + 1) = i + 1 + cpl ((bytesOf a).drop (i + 1)) ((bytesOf b).drop (i + 1)) by omega];exact this)
    rfl
   ·rw [if_neg he]
    exact Ev.ite_neg (by rw [bt_getD, bt_getD]; exact he) (Ev.now _)
  ·refine Ev.ite_neg (by omega) ?_
   rw [show (bytesOf b).drop i = [] from List.drop_eq_nil_of_le (by rw [bytesOf_length]; omega)]
   rw [show cpl ((bytesOf a).drop i) [] = 0 by cases (bytesOf a).drop i <;> rfl]
   exact Ev.now _
theorem shared_ev (a b : ByteArray) (ha : a.size < 4611686018427387904) : Ev (fun k=>block_shared.f k a b) ((cpl (bytesOf a) (bytesOf b) : Nat) : Int):=by
 have := shared_l0 a b ha _ 0 rfl (by omega) (by omega)
 rw [List.drop_zero, List.drop_zero, Nat.zero_add] at this
 exact this
theorem putAll_ev : ∀ (l : List Nat) (b : List Int),(∀ x ∈ l,x < 18446744073709551616) → b.length + 10 * l.length < 140737488355328 → Ev (fun k=>putAll k (l.map (fun x : Nat=>(x : Int))) b) (b ++ l.flatMap put)
 | [], b, _, _ => by
  simp only [List.map_nil, putAll, List.flatMap_nil, List.append_nil]
  exact Ev.now b
 | n :: t, b, h, hl => by
  simp only [List.map_cons, putAll]
  have hn := h n (by simp)
  rw [u64_id (by omega) (by omega)]
  refine Ev.bind (Put_ev hn) ?_
  have h10 := put_length10 hn
  simp only [List.length_cons] at hl
  refine Ev.ite_pos (by omega) ?_
  have := putAll_ev t (b ++ put n) (fun x hx => h x (by simp [hx])) (by rw [List.length_append]; omega)
  rw [List.flatMap_cons, ← List.append_assoc]
  exact this
/-- A builder's state. -/
structure St where
 rows : Nat
 last : ByteArray
 b : List Int
 p : List Int
def St0 : St := ⟨0, ⟨#[]⟩, [], []⟩
/-- How much a key shares. -/
def St.sh (s : St) (k : ByteArray) : Nat := if s.rows % 4 = 0 then 0 else cpl (bytesOf s.last) (bytesOf k)
/-- A row added. -/
def addT (s : St) (k v : ByteArray) : St:=⟨s.rows + 1,k,s.b ++ (put (s.sh k) ++ put (k.size - s.sh k) ++ put v.size) ++ (bytesOf k).drop (s.sh k) ++ bytesOf v,if s.rows % 4 = 0 then s.p ++ fix s.b.length 4 else s.p⟩
def addB (s : St) (k : ByteArray) : Bool := s.rows == 0 || Op.bytesLess s.last.toList k.toList
def addS (s : St) (k v : ByteArray) : Option St := if addB s k then some (addT s k v) else none
def BldS (w0 w : World) (g : Nat) (s : St) : Prop := BldI w0 w g s.rows s.last s.b s.p
theorem bytesOf_extract_from (k : ByteArray) (n : Nat) : bytesOf (k.extract n k.size) = (bytesOf k).drop n := by
 unfold bytesOf
 rw [ByteArray.data_extract, Array.toList_extract, List.extract_eq_take_drop, ← List.map_drop]
 congr 1
 rw [List.take_of_length_le]
 rw [List.length_drop, Array.length_toList]
 exact Nat.le_refl _
theorem u32_id {n : Int} (h0 : 0 ≤ n) (h1 : n < 4294967296) : IntKind.u32.wrap n = n := by
 simp only [IntKind.wrap, IntKind.signed, IntKind.bits, Bool.false_and, Bool.false_eq_true, if_false]
 omega
theorem block_Add.calls (w0 w : World) (g : Nat) (s : St) (key value : ByteArray) (hI : BldS w0 w g s) (hr : s.rows < 1000000000) (hl : s.last.size < 1000000) (hks : key.size < 1000000) (hvs : value.size < 1000000) (hbl : s.b.length < 4294967296) (hpl : s.p.length < 4294967296) :
  Calls Try.prog 45 #[.pointer (some ⟨g,0,none⟩),.string key,.string value] w fun e w'=>e = .returned (.bool (addB s key))∧BldS w0 w' g (if addB s key then addT s key value else s)∧Oth w w' g:=by
 unfold BldS at *
 by_cases hb : addB s key = true
 ·rw [if_pos hb, hb]
  have hb' : s.rows = 0 ∨ Op.bytesLess s.last.toList key.toList = true := by
   unfold addB at hb
   rw [Bool.or_eq_true, beq_iff_eq] at hb
   exact hb
  by_cases h4 : s.rows % 4 = 0
  ·have hsh : s.sh key = 0 := if_pos h4
   obtain ⟨K1, hK1⟩ := Put32_ev (n := s.b.length) hbl
   have hp := putAll_ev [0, key.size, value.size] s.b (by simp; omega) (by simp; omega)
   obtain ⟨K2, hK2⟩ := hp
   have hq := block_Add_yesA.calls (max K1 K2) w0 w g s.rows s.last key value s.b s.p (fix s.b.length 4) _ hI
    (by rcases hb' with h | h;exact .inr (by omega);by_cases h0 : s.rows = 0;exact .inr (by omega);exact .inl ⟨by omega,h⟩)
    (by rw [Int.tmod_eq_emod_of_nonneg (by omega)];omega) (by rw [u32_id (by omega) (by omega)];exact hK1 _ (Nat.le_max_left ..)) (hK2 _ (Nat.le_max_right ..)) (by omega) hks hvs
    (by
     have h0 := put_length10 (n := 0) (by omega)
     have h1 := put_length10 (n := key.size) (by omega)
     have h2 := put_length10 (n := value.size) (by omega)
     simp only [List.length_append, List.flatMap_cons, List.flatMap_nil, List.append_nil]
     omega)
    (by rw [fix_length]; omega)
   refine hq.mono ?_
   rintro e w' ⟨rfl, hI', hO⟩
   refine ⟨rfl, ?_, hO⟩
   have : (addT s key value) = ⟨s.rows + 1,key,s.b ++ [0,key.size,value.size].flatMap put ++ bytesOf key ++ bytesOf value,s.p ++ fix s.b.length 4⟩:=by
    unfold addT
    rw [hsh, if_pos h4]
    simp only [List.drop_zero,Nat.sub_zero,List.flatMap_cons,List.flatMap_nil,List.append_nil,List.append_assoc]
   rw [this]
   simpa using hI'
  ·have hsh : s.sh key = cpl (bytesOf s.last) (bytesOf key) := if_neg h4
   have hcl := cpl_le (bytesOf s.last) (bytesOf key)
   rw [bytesOf_length, bytesOf_length] at hcl
   obtain ⟨K1, hK1⟩ := shared_ev s.last key (by omega)
   have hp := putAll_ev [s.sh key, key.size - s.sh key, value.size] s.b (by simp; omega) (by simp; omega)
   obtain ⟨K2, hK2⟩ := hp
   have hq:=block_Add_yesB.calls (max K1 K2) w0 w g s.rows (s.sh key : Nat) s.last key value s.b s.p _ hI (by omega)
    (by rcases hb' with h | h; omega; exact h)
    (by rw [Int.tmod_eq_emod_of_nonneg (by omega)];omega) (by rw [hsh];exact hK1 _ (Nat.le_max_left ..)) (by omega) (by omega) (by
     have h_ := hK2 (max K1 K2) (Nat.le_max_right ..)
     simp only [List.map_cons, List.map_nil] at h_
     rw [← h_, Int.ofNat_sub (by omega)]) (by omega) hks hvs
    (by
     have h0 := put_length10 (n := s.sh key) (by omega)
     have h1 := put_length10 (n := key.size - s.sh key) (by omega)
     have h2 := put_length10 (n := value.size) (by omega)
     simp only [List.length_append, List.flatMap_cons, List.flatMap_nil, List.append_nil]
     omega)
   refine hq.mono ?_
   rintro e w' ⟨rfl, hI', hO⟩
   refine ⟨rfl, ?_, hO⟩
   have : (addT s key value) = ⟨s.rows + 1,key,s.b ++ [s.sh key,key.size - s.sh key,value.size].flatMap put ++ (bytesOf key).drop (s.sh key) ++ bytesOf value,s.p⟩:=by
    unfold addT
    rw [if_neg h4]
    simp only [List.flatMap_cons, List.flatMap_nil, List.append_nil, List.append_assoc]
   rw [this]
   rw [Int.toNat_natCast, bytesOf_extract_from] at hI'
   simpa using hI'
 ·rw [if_neg hb]
  have hf : addB s key = false := by simpa using hb
  rw [hf]
  unfold addB at hf
  rw [Bool.or_eq_false_iff, beq_eq_false_iff_ne] at hf
  refine (block_Add_no.calls w0 w g s.rows s.last key value s.b s.p hI (by omega) hf.2).mono ?_
  rintro e w' ⟨rfl, rfl⟩
  exact ⟨rfl, hI, Oth.refl _ _⟩
/-- The block's bytes. -/
def St.out (s : St) : List Int := s.b ++ s.p ++ fix (s.p.length / 4) 4
theorem block_BytesS.calls (w0 w : World) (g : Nat) (s : St) (hI : BldS w0 w g s) (hbl : s.b.length < 4294967296) (hpl : s.p.length < 4294967296) :
  Calls Try.prog 43 #[.pointer (some ⟨g,0,none⟩)] w fun e w'=>∃ v,e = .returned v∧Kd.R (Kd.int .u8) 5 w' w.heap.size (fun _=>True) v s.out∧BldS w0 w' g s∧Below w.heap.size w w':=by
 obtain ⟨K, hK⟩ := Put32_ev (n := s.p.length / 4) (by omega)
 exact block_Bytes.calls K w0 w g s.rows s.last s.b s.p _ hI (by rw [← hK K (Nat.le_refl _)];congr 1;omega) (by omega) (by omega) (by rw [fix_length];omega)
set_option maxHeartbeats 8000000 in
set_option maxRecDepth 100000 in
theorem block_NewS.calls (w0 w : World) (hB : Below w0.heap.size w0 w) :
  Calls Try.prog 41 #[] w fun e w'=>∃ g : Nat,e = .returned (.pointer (some ⟨g,0,none⟩))∧BldS w0 w' g St0∧Below w.heap.size w w'∧w.heap.size ≤ g:=by
 have hw : Below w.heap.size w w := Below.refl _ _
 have hu111 := Try.underlying120
 have HBW := Aside0.mk (Below.refl w.heap.size w)
 have HW0 := Aside0.mk hB.size
 have HB := Aside0.mk hB
 clear hB hw
 go_enter Try.func41, Try.ntmps41
 go_wp2_with (first | ((with_reducible refine gate_dst (N:=2) rfl ?_);refine box_event ?hg (N:=2) ?hd (cs:=#[.int .i64 0,.string (⟨#[]⟩ : ByteArray),.slice none 0 0,.slice none 0 0]) (t:=120) ?hr ?_;(case hd=>rfl);(case hg=>rfl);(case hr=>first | (go_simp;done) | (go_simp;rfl));intro gb101 hg w1 hbox hb;have n0_:=Aside0.mk (below_step HBW.out hb);have n1_:=Aside0.mk (below_step (by repeat (first | (with_reducible first | exact HB.out | apply below_alloc | apply pw_below_drewN | apply below_drew1) | exact HB.out)) hb);have n2_:=Aside0.mk (hbox);have n3_:=Aside0.mk ((by rw [hg];exact (below_size (by repeat (first | (with_reducible first | exact HBW.out | apply below_alloc | apply pw_below_drewN | apply below_drew1) | exact HBW.out))) : w.heap.size ≤ gb101));have n4_:=Aside0.mk ((Nat.le_trans HW0.out (by rw [hg];exact (below_size (by repeat (first | (with_reducible first | exact HBW.out | apply below_alloc | apply pw_below_drewN | apply below_drew1) | exact HBW.out))) : w.heap.size ≤ gb101) : w0.heap.size ≤ gb101));clear HBW;clear HB;have HBW:=n0_;have HB:=n1_;have BK101:=n2_;have GW101:=n3_;have GE101:=n4_;clear n0_ n1_ n2_ n3_ n4_;clear hb hbox hg))
 go_ret
 refine ⟨_,rfl,⟨GE101.out,HB.out,.slice none 0 0,.slice none 0 0,BK101.out,Kd.R_nil _ _ _ _ _,Kd.R_nil _ _ _ _ _,fun k hk=>by simp [Value.ownBlock] at hk⟩,HBW.out,GW101.out⟩
end Go.Proofs.Ytenmljkddhonmaa.MTbl

namespace Go.Proofs.Ytenmljkddhonmaa.MTbl
open Go.RowKit Go.Proofs.Ytenmljkddhonmaa.QTbl Go.Proofs.YtenmljkddhonmaaW.PrintWords Go.Proofs.YtenmljkddhonmaaW.PrintLast Go.Proofs.YtenmljkddhonmaaW.PrintMore
set_option linter.unusedVariables false
set_option linter.unusedSimpArgs false
/-! PURE: an entry's key, and its order -/
def ltL : List Int → List Int → Bool
 | _, [] => false
 | [], _ :: _ => true
 | a :: x, b :: y => decide (a < b) || (decide (a = b) && ltL x y)
theorem ofNat_lt {a b : Int} (ha : 0 ≤ a∧a < 256) (hb : 0 ≤ b∧b < 256) : (UInt8.ofNat a.toNat < UInt8.ofNat b.toNat) ↔ a < b:=by
 rw [UInt8.lt_iff_toNat_lt, UInt8.toNat_ofNat', UInt8.toNat_ofNat']
 have e : (2 : Nat) ^ 8 = 256 := rfl
 rw [e, Nat.mod_eq_of_lt (by omega), Nat.mod_eq_of_lt (by omega)]; omega
theorem ofNat_eq {a b : Int} (ha : 0 ≤ a∧a < 256) (hb : 0 ≤ b∧b < 256) : (UInt8.ofNat a.toNat = UInt8.ofNat b.toNat) ↔ a = b:=by
 rw [← UInt8.toNat_inj, UInt8.toNat_ofNat', UInt8.toNat_ofNat']
 have e : (2 : Nat) ^ 8 = 256 := rfl
 rw [e, Nat.mod_eq_of_lt (by omega), Nat.mod_eq_of_lt (by omega)]; omega
theorem less_map : ∀ l m : List Int,Bytes l → Bytes m → Op.bytesLess (l.map fun n=>UInt8.ofNat n.toNat) (m.map fun n=>UInt8.ofNat n.toNat) = ltL l m
 | l, [], _, _ => by cases l <;> rfl
 | [], _ :: _, _, _ => rfl
 | a :: x, b :: y, hl, hm => by
  have ha := hl a (List.mem_cons_self ..)
  have hb := hm b (List.mem_cons_self ..)
  have ih:=less_map x y (fun c hc=>hl c (List.mem_cons_of_mem _ hc)) (fun c hc=>hm c (List.mem_cons_of_mem _ hc))
  simp only [List.map_cons, Op.bytesLess, ltL, ih]
  rw [show decide (UInt8.ofNat a.toNat < UInt8.ofNat b.toNat) = decide (a < b) from decide_eq_decide.2 (ofNat_lt ha hb)]
  rw [show (UInt8.ofNat a.toNat == UInt8.ofNat b.toNat) = decide (a = b) by
   by_cases e : a = b
   ·simp [e]
   ·rw [decide_eq_false e]; exact beq_eq_false_iff_ne.2 (fun h => e ((ofNat_eq ha hb).1 h))]
theorem less_nums {l m : List Int} (hl : Bytes l) (hm : Bytes m) : Op.bytesLess (strOfNums l).toList (strOfNums m).toList = ltL l m:=by
 rw [Lib.toList_data, Lib.toList_data, strOfNums_data, strOfNums_data]; exact less_map l m hl hm
theorem nums_bytesOf (t : ByteArray) : strOfNums (bytesOf t) = t := strOfNums_bytes t
theorem bytesOf_bytes (t : ByteArray) : Bytes (bytesOf t) := by
 intro c hc
 unfold bytesOf at hc
 obtain ⟨u, _, rfl⟩ := List.mem_map.1 hc
 have := u.toNat_lt
 omega
theorem less_bytes (a b : ByteArray) : Op.bytesLess a.toList b.toList = ltL (bytesOf a) (bytesOf b) := by
 have := less_nums (bytesOf_bytes a) (bytesOf_bytes b)
 rw [nums_bytesOf, nums_bytesOf] at this; exact this
theorem ltL_cons (a : Int) (x y : List Int) : ltL (a :: x) (a :: y) = ltL x y := by
 show (decide (a < a) || (decide (a = a) && ltL x y)) = _
 simp
theorem ltL_app : ∀ (p : List Int) (x y : List Int), ltL (p ++ x) (p ++ y) = ltL x y
 | [], _, _ => rfl
 | a :: p, x, y => by
  rw [List.cons_append, List.cons_append, ltL_cons]
  exact ltL_app p x y
def esc : List Int → List Int
 | [] => []
 | x :: t => if x = 0 then 0 :: 1 :: esc t else x :: esc t
theorem esc_length : ∀ l, l.length ≤ (esc l).length ∧ (esc l).length ≤ 2 * l.length
 | [] => ⟨Nat.le_refl _, Nat.le_refl _⟩
 | x :: t => by
  have := esc_length t
  unfold esc; split <;> simp only [List.length_cons] <;> omega
theorem esc_bytes : ∀ l, Bytes l → Bytes (esc l)
 | [], _ => by simp [esc, Bytes]
 | x :: t, h => by
  have h1 := esc_bytes t (fun c hc => h c (List.mem_cons_of_mem _ hc))
  have hx := h x (List.mem_cons_self ..)
  intro c hc
  unfold esc at hc
  split at hc <;> simp only [List.mem_cons] at hc
  ·rcases hc with rfl | rfl | hc
   ·omega
   ·omega
   ·exact h1 c hc
  ·rcases hc with rfl | hc
   ·exact hx
   ·exact h1 c hc
theorem esc_lt : ∀ (x y r s : List Int),Bytes x → Bytes y → ltL x y = true → ltL (esc x ++ ([0,0] ++ r)) (esc y ++ ([0,0] ++ s)) = true
 | _, [], _, _, _, _, h => by simp [ltL] at h
 | [], c :: t, r, s, _, hy, _ => by
  have hc := hy c (List.mem_cons_self ..)
  simp only [esc]
  by_cases e : c = 0
  ·rw [if_pos e]; simp [ltL]
  ·rw [if_neg e]
   simp only [List.nil_append, List.cons_append, ltL]
   have : (0 : Int) < c := by omega
   simp [this]
 | a :: x, b :: y, r, s, hx, hy, h => by
  have ha := hx a (List.mem_cons_self ..)
  have hb := hy b (List.mem_cons_self ..)
  simp only [ltL, Bool.or_eq_true, decide_eq_true_eq, Bool.and_eq_true] at h
  rcases h with h | ⟨rfl, h⟩
  ·simp only [esc]
   rw [if_neg (show ¬ b = 0 by omega)]
   split
   ·simp only [List.cons_append, ltL]; simp; omega
   ·simp only [List.cons_append, ltL]; simp [h]
  ·have ih:=esc_lt x y r s (fun c hc=>hx c (List.mem_cons_of_mem _ hc)) (fun c hc=>hy c (List.mem_cons_of_mem _ hc)) h
   simp only [esc]
   split
   ·exact (ltL_cons 0 (1 :: (esc x ++ ([0,0] ++ r))) (1 :: (esc y ++ ([0,0] ++ s)))).trans ((ltL_cons 1 _ _).trans ih)
   ·exact (ltL_cons a (esc x ++ ([0, 0] ++ r)) (esc y ++ ([0, 0] ++ s))).trans ih
/-- A number in so many bytes, the highest first. -/
def be : Nat → Nat → List Int
 | 0, _ => []
 | k + 1, n => ((n / 256 ^ k % 256 : Nat) : Int) :: be k n
theorem be_length : ∀ k n, (be k n).length = k
 | 0, _ => rfl
 | k + 1, n => by simp [be, be_length k]
theorem be_bytes : ∀ k n, Bytes (be k n)
 | 0, _ => by simp [be, Bytes]
 | k + 1, n => by
  intro c hc
  simp only [be, List.mem_cons] at hc
  rcases hc with rfl | hc
  ·omega
  ·exact be_bytes k n c hc
theorem be_lt : ∀ (k n m : Nat) (r s : List Int), n % 256 ^ k < m % 256 ^ k → ltL (be k n ++ r) (be k m ++ s) = true
 | 0, n, m, r, s, h => by simp only [Nat.pow_zero, Nat.mod_one] at h; omega
 | k + 1, n, m, r, s, h => by
  have e1 : n % 256 ^ (k + 1) = 256 ^ k * (n / 256 ^ k % 256) + n % 256 ^ k:=by rw [Nat.pow_succ,Nat.mod_mul];omega
  have e2 : m % 256 ^ (k + 1) = 256 ^ k * (m / 256 ^ k % 256) + m % 256 ^ k:=by rw [Nat.pow_succ,Nat.mod_mul];omega
  have hp : 0 < 256 ^ k := Nat.pow_pos (by decide)
  have l1 := Nat.mod_lt n hp
  have l2 := Nat.mod_lt m hp
  rw [e1, e2] at h
  simp only [be, List.cons_append, ltL, Bool.or_eq_true, decide_eq_true_eq, Bool.and_eq_true]
  rcases Nat.lt_trichotomy (n / 256 ^ k % 256) (m / 256 ^ k % 256) with c | c | c
  ·left; omega
  ·right
   rw [c] at h
   refine ⟨by omega, be_lt k n m r s (by omega)⟩
  ·exfalso
   have := Nat.mul_le_mul_left (256 ^ k) (show m / 256 ^ k % 256 + 1 ≤ n / 256 ^ k % 256 by omega)
   rw [Nat.mul_add, Nat.mul_one] at this
   omega
def keyN (e : S28) : Nat := (4611686018427387904 - e.f1).toNat
def keyR (e : S28) : List Int := be 8 (keyN e) ++ [1 - e.f2]
def keyL (e : S28) : List Int := esc (bytesOf e.f0) ++ ([0, 0] ++ keyR e)
def keyS (e : S28) : ByteArray := strOfNums (keyL e)
/-- What a key takes. -/
def okK (e : S28) : Prop := (1 ≤ e.f1 ∧ e.f1 ≤ 1125899906842624) ∧ (e.f2 = 0 ∨ e.f2 = 1) ∧ e.f0.size ≤ 30
theorem keyL_bytes {e : S28} (h : okK e) : Bytes (keyL e) := by
 unfold keyL keyR
 refine Bytes.append (esc_bytes _ (bytesOf_bytes _)) (Bytes.append (by intro c hc;simp at hc;omega) (Bytes.append (be_bytes _ _) ?_))
 intro c hc
 have := h.2.1
 simp only [List.mem_singleton] at hc
 omega
theorem keyL_length {e : S28} : (keyL e).length ≤ 2 * e.f0.size + 11 := by
 have := (esc_length (bytesOf e.f0)).2
 rw [bytesOf_length] at this
 unfold keyL keyR
 simp only [List.length_append, be_length, List.length_cons, List.length_nil]; omega
theorem keyS_size {e : S28} : (keyS e).size = (keyL e).length := strOfNums_size _
theorem keyS_lt {a b : S28} (ha : okK a) (hb : okK b) (h : ltS a b = true) : Op.bytesLess (keyS a).toList (keyS b).toList = true:=by
 unfold keyS
 rw [less_nums (keyL_bytes ha) (keyL_bytes hb)]
 unfold ltS lt3 at h
 unfold keyL
 by_cases e : a.f0.toList = b.f0.toList
 ·rw [if_pos e] at h
  have e' : a.f0 = b.f0 := by rw [Lib.toList_data, Lib.toList_data] at e; exact ByteArray.ext (Array.toList_inj.1 e)
  rw [e', ltL_app, ltL_app]
  unfold keyR
  have h1 := ha.1
  have h2 := hb.1
  by_cases f : a.f1 = b.f1
  ·rw [if_pos f, decide_eq_true_eq] at h
   rw [show keyN a = keyN b by unfold keyN; rw [f], ltL_app]
   simp only [ltL]
   have : 1 - a.f2 < 1 - b.f2 := by omega
   simp [this]
  ·rw [if_neg f, decide_eq_true_eq] at h
   refine be_lt 8 _ _ _ _ ?_
   have n1 : keyN a < keyN b := by unfold keyN; omega
   have n2 : keyN b < 256 ^ 8 := by unfold keyN; omega
   rw [Nat.mod_eq_of_lt (by omega), Nat.mod_eq_of_lt n2]; exact n1
 ·rw [if_neg e, less_bytes] at h
  exact esc_lt _ _ _ _ (bytesOf_bytes _) (bytesOf_bytes _) h
theorem key_l1 (N : Nat) (e : S28) (h2 : e.f2 = 0 ∨ e.f2 = 1) : ∀ (j : Nat) (acc : List Int),j ≤ 8 → acc.length + j < 1000000 → Ev (fun k=>table_key.l1 k acc (N : Int) ((j : Int) - 1) e.f0 e.f1 e.f2 e.f3 e.f4) (strOfNums (acc ++ (be j N ++ [1 - e.f2])))
 | 0, acc, _, ha => by
  refine Ev.succ ?_
  simp only [table_key.l1]
  refine Ev.ite_neg (by omega) (Ev.ite_pos (by omega) (Ev.same ?_))
  rw [wrap64_id (by omega) (by omega), show (1 - e.f2) % 256 = 1 - e.f2 by omega]
  simp [be]
 | j + 1, acc, hj, ha => by
  refine Ev.succ ?_
  simp only [table_key.l1]
  rw [show ((j + 1 : Nat) : Int) - 1 = (j : Int) by omega]
  rw [wrap64_id (n := 8 * (j : Int)) (by omega) (by omega), wrap64_id (n := (j : Int) - 1) (by omega) (by omega)]
  refine Ev.ite_pos (by omega) (Ev.ite_pos (by omega) (Ev.ite_pos (by omega) ?_))
  have e1 : shr .u64 (N : Int) (8 * (j : Int)) % 256 = ((N / 256 ^ j % 256 : Nat) : Int) := by
   unfold shr
   rw [show min (8 * (j : Int)).toNat IntKind.u64.bits = 8 * j by
    rw [show (8 * (j : Int)).toNat = 8 * j by omega]; exact Nat.min_eq_left (by show 8 * j ≤ 64; omega)]
   have : ((2 : Int) ^ (8 * j)) = ((256 ^ j : Nat) : Int) := by rw [← pow256]; simp
   rw [this]; simp
  rw [e1]
  have := key_l1 N e h2 j (acc ++ [((N / 256 ^ j % 256 : Nat) : Int)]) (by omega) (by simp; omega)
  rw [List.append_assoc, List.singleton_append] at this
  exact this
theorem key_l0 (e : S28) (h : okK e) (d : Nat) : ∀ (i : Nat) (acc : List Int),e.f0.size - i = d → i ≤ e.f0.size → acc.length ≤ 2 * i → Ev (fun k=>table_key.l0 k acc (e.f0.size : Int) (i : Int) e.f0 e.f1 e.f2 e.f3 e.f4) (strOfNums (acc ++ (esc ((bytesOf e.f0).drop i) ++ ([0,0] ++ keyR e)))):=by
 have hs := h.2.2
 induction d with
 | zero =>
  intro i acc hd hi ha
  refine Ev.succ ?_
  simp only [table_key.l0]
  refine Ev.ite_neg (by omega) ?_
  simp only [Option.bind_some]
  refine Ev.ite_pos (by simp only [List.length_cons, List.length_nil]; omega) ?_
  have h1 := h.1
  rw [wrap64_id (by omega) (by omega), u64_id (by omega) (by omega)]
  rw [List.drop_eq_nil_of_le (by rw [bytesOf_length]; omega)]
  have := key_l1 (keyN e) e h.2.1 8 (acc ++ [0, 0]) (Nat.le_refl _) (by simp; omega)
  rw [show (4611686018427387904 - e.f1) = ((keyN e : Nat) : Int) by unfold keyN; omega]
  simp only [esc, List.nil_append]
  rw [← List.append_assoc]
  exact this
 | succ d ih =>
  intro i acc hd hi ha
  have hlt : i < e.f0.size := by omega
  refine Ev.succ ?_
  simp only [table_key.l0, Option.bind_some]
  rw [wrap64_id (n := (i : Int) + 1) (by omega) (by omega)]
  refine Ev.ite_pos (by omega) (Ev.ite_pos (by omega) (Ev.ite_pos (by omega) (Ev.ite_pos (by omega) ?_)))
  rw [dropD (bytesOf e.f0) i (by rw [bytesOf_length]; omega), ← bt_getD]
  simp only [esc]
  by_cases c : bt e.f0 (i : Int) = 0
  ·rw [if_pos c]
   refine Ev.ite_pos c (Ev.ite_pos (by simp; omega) ?_)
   have := ih (i + 1) (acc ++ [bt e.f0 i] ++ [1]) (by omega) (by omega) (by simp; omega)
   rw [c, List.append_assoc, List.append_assoc] at this
   rw [c, List.append_assoc]
   exact this
  ·rw [if_neg c]
   refine Ev.ite_neg c ?_
   have := ih (i + 1) (acc ++ [bt e.f0 i]) (by omega) (by omega) (by simp; omega)
   rw [List.append_assoc] at this
   exact this
theorem key_ev (e : S28) (h : okK e) : Ev (fun k => table_key.f k e.f0 e.f1 e.f2 e.f3 e.f4) (keyS e) := by
 have := key_l0 e h e.f0.size 0 [] rfl (Nat.zero_le _) (Nat.le_refl _)
 rw [List.drop_zero, List.nil_append] at this
 exact this
end Go.Proofs.Ytenmljkddhonmaa.MTbl

namespace Go.Proofs.Ytenmljkddhonmaa.MTbl
open Go.RowKit Go.Proofs.Ytenmljkddhonmaa.QTbl Go.Proofs.YtenmljkddhonmaaW.PrintWords Go.Proofs.YtenmljkddhonmaaW.PrintLast Go.Proofs.YtenmljkddhonmaaW.PrintMore
set_option linter.unusedVariables false
set_option linter.unusedSimpArgs false
theorem esc_append : ∀ a b : List Int, esc (a ++ b) = esc a ++ esc b
 | [], _ => rfl
 | x :: t, b => by
  rw [List.cons_append]
  simp only [esc]
  split <;> rw [esc_append t b] <;> rfl
theorem or_high {a b i : Nat} (ha : a < 2 ^ i) (hb : b % 2 ^ i = 0) (ha64 : a < 2 ^ 64) (hb64 : b < 2 ^ 64) : Go.bits .or .u64 (b : Int) (a : Int) = ((b + a : Nat) : Int):=by
 have h := (bits_nat .u64 64 (by decide) u64wraps b a hb64 ha64).2
 rw [h]
 have hq : b = 2 ^ i * (b / 2 ^ i) := by
  have := Nat.div_add_mod b (2 ^ i)
  omega
 rw [hq, ← Nat.two_pow_add_eq_or_of_lt ha (b / 2 ^ i)]
theorem bytesOf_nums : ∀ {l : List Int}, Bytes l → bytesOf (strOfNums l) = l := by
 intro l h
 show (strOfNums l).data.toList.map (fun x => (x.toNat : Int)) = l
 rw [strOfNums_data, List.map_map]
 refine (List.map_congr_left (g := id) (fun a ha => ?_)).trans (List.map_id _)
 have := h a ha
 show (((UInt8.ofNat a.toNat).toNat : Nat) : Int) = a
 rw [UInt8.toNat_ofNat']
 have e : (2 : Nat) ^ 8 = 256 := rfl
 rw [e, Nat.mod_eq_of_lt (by omega)]; omega
/-- A byte of three parts. -/
theorem bt_mid {s : ByteArray} {p m : List Int} (h : bytesOf s = p ++ m) (j : Nat) : bt s ((p.length + j : Nat) : Int) = m.getD j 0:=by
 rw [bt_getD, h]; simp only [List.getD_eq_getElem?_getD]; rw [List.getElem?_append_right (by omega)]; congr 2; omega
theorem be_step (N j : Nat) (hj : j < 8) (hN : N < 256 ^ 8) : Go.bits .or .u64 (shl .u64 ((N / 256 ^ (8 - j) : Nat) : Int) 8) ((N / 256 ^ (7 - j) % 256 : Nat) : Int) = ((N / 256 ^ (8 - (j + 1)) : Nat) : Int):=by
 have e1 : N / 256 ^ (8 - (j + 1)) = N / 256 ^ (8 - j) * 256 + N / 256 ^ (7 - j) % 256 := by
  have : N / 256 ^ (8 - j) = N / 256 ^ (7 - j) / 256 := by rw [Nat.div_div_eq_div_mul, ← Nat.pow_succ]; congr 2; omega
  rw [this, show 8 - (j + 1) = 7 - j by omega]; omega
 have h2 : N / 256 ^ (8 - j) * 256 < 2 ^ 64 := by
  have hlt : N / 256 ^ (8 - (j + 1)) < 2 ^ 64 := Nat.lt_of_le_of_lt (Nat.div_le_self _ _) (by simpa using hN)
  omega
 have h3 : shl .u64 ((N / 256 ^ (8 - j) : Nat) : Int) 8 = ((N / 256 ^ (8 - j) * 256 : Nat) : Int) := by
  unfold shl
  rw [show min (8 : Int).toNat IntKind.u64.bits = 8 by rfl]
  rw [show ((N / 256 ^ (8 - j) : Nat) : Int) * 2 ^ 8 = ((N / 256 ^ (8 - j) * 256 : Nat) : Int) by rw [Int.natCast_mul];rfl]
  exact u64_id (by omega) (by simpa using (Int.ofNat_lt.2 h2))
 rw [h3, or_high (i := 8) (by omega) (by omega) (by omega) h2, e1]
theorem be_step2 (N j : Nat) (hj : j < 8) (hN : N < 256 ^ 8) : Go.bits .or .u64 (IntKind.u64.wrap ((N : Int) / 256 ^ (8 - j) * 256)) ((N : Int) / 256 ^ (7 - j) % 256) = ((N / 256 ^ (8 - (j + 1)) : Nat) : Int):=by
 have h := be_step N j hj hN
 unfold shl at h
 rw [show min (8 : Int).toNat IntKind.u64.bits = 8 by rfl] at h
 rw [← h]
 congr 1
theorem be_getD : ∀ (k N j : Nat) (t : List Int),j < k → (be k N ++ t).getD j 0 = ((N / 256 ^ (k - 1 - j) % 256 : Nat) : Int)
 | 0, _, _, _, h => by omega
 | k + 1, N, 0, t, _ => by simp [be]
 | k + 1, N, j + 1, t, h => by
  simp only [be, List.cons_append, List.getD_cons_succ]
  rw [be_getD k N j t (by omega)]
  congr 4; omega
set_option maxHeartbeats 8000000 in
set_option maxRecDepth 1000000 in
theorem table_unkey.calls (s : ByteArray) (F : List Int) (N : Nat) (kd : Int) (hF : Bytes F) (hN : N < 256 ^ 8) (hkd : kd = 0 ∨ kd = 1) (hsz : s.size < 1000000) (hs : bytesOf s = esc F ++ ([0,0] ++ (be 8 N ++ [kd]))) (w : World) :
  Calls Try.prog 79 #[.string s] w fun r w'=>r = .returned (.tuple #[.agg #[.string (strOfNums F),.int .i64 (wrap64 (4611686018427387904 - wrap64 N)),.int .i64 (1 - kd),.string ⟨#[]⟩,.string ⟨#[]⟩],.bool true])∧Below w.heap.size w w':=by
 have hu28 := Try.underlying28
 obtain ⟨W0,hW0⟩ : ∃ W0,W0 = (w.alloc (.cells #[.string ⟨#[]⟩,.int .i64 0,.int .i64 0,.string ⟨#[]⟩,.string ⟨#[]⟩] 28)).alloc (.cells #[.string ⟨#[]⟩,.int .i64 0,.int .i64 0,.string ⟨#[]⟩,.string ⟨#[]⟩] 28):=⟨_,rfl⟩
 have hB0 : Below w.heap.size w W0 := by rw [hW0]; exact below_alloc (below_alloc (Below.refl _ _) _) _
 have hsize : W0.heap.size = w.heap.size + 1 + 1 := by rw [hW0]; simp
 have hz1 : W0.heap[w.heap.size]? = some (.cells #[.string ⟨#[]⟩,.int .i64 0,.int .i64 0,.string ⟨#[]⟩,.string ⟨#[]⟩] 28 (0,0)):=by rw [hW0];exact blk_alloc (heap_new_ w _) _
 have hz2 : W0.heap[w.heap.size + 1]? = some (.cells #[.string ⟨#[]⟩,.int .i64 0,.int .i64 0,.string ⟨#[]⟩,.string ⟨#[]⟩] 28 (0,0)):=by rw [hW0];have:=heap_new_ (w.alloc (.cells #[.string ⟨#[]⟩,.int .i64 0,.int .i64 0,.string ⟨#[]⟩,.string ⟨#[]⟩] 28)) (.cells #[.string ⟨#[]⟩,.int .i64 0,.int .i64 0,.string ⟨#[]⟩,.string ⟨#[]⟩] 28);rw [World.size_alloc] at this;exact this
 have HB0 := Aside0.mk hB0
 clear hB0
 go_enter Try.func79, Try.ntmps79
 go_wp2
 rw [← hW0]
 have hlF : F.length < 1000000 := by
  have := congrArg List.length hs
  rw [bytesOf_length] at this
  simp only [List.length_append] at this
  have := (esc_length F).1
  omega
 have hlS : s.size = (esc F).length + 11 := by
  have := congrArg List.length hs
  rw [bytesOf_length] at this
  simp only [List.length_append, be_length, List.length_cons, List.length_nil] at this
  omega
 have HLS := Aside0.mk hlS
 clear hlS
 go_loopg [5,6] F.length (fun kx s5 s6 wr=>∃ (P Q : List Int),F = P ++ Q∧s6 = .int .i64 ((esc P).length : Nat)∧Q.length ≤ kx∧bytesOf s = esc P ++ (esc Q ++ ([0,0] ++ (be 8 N ++ [kd])))∧(esc P).length + (esc Q).length = (esc F).length∧Aside0 (Kd.R (Kd.int .u8) 5 wr W0.heap.size (fun _=>True) s5 P)∧Aside0 (Below W0.heap.size W0 wr))
 case atStart => exact ⟨[], F, rfl, rfl, Nat.le_refl _, hs, by simp [esc], ⟨Kd.R_nil _ _ _ _ _⟩, ⟨Below.refl _ _⟩⟩
 case round =>
  obtain ⟨P, Q, hPQ, rfl, hQk, hsPQ, hlen, HO, HB⟩ := hrel
  have hx0 := bt_mid hsPQ 0
  have hx1 := bt_mid hsPQ 1
  rw [Nat.add_zero] at hx0
  rw [Int.natCast_add] at hx1
  have hPF : P.length ≤ F.length := by rw [hPQ, List.length_append]; omega
  have b1 : ∀ h : (esc P).length < s.size,((s[(esc P).length]'h).toNat : Int) = bt s ((esc P).length : Int):=fun h=>bt_at s ((esc P).length : Int) h
  have b2 : ∀ h : (esc P).length + 1 < s.size,((s[(esc P).length + 1]'h).toNat : Int) = bt s (((esc P).length : Int) + 1):=fun h=>bt_at s (((esc P).length + 1 : Nat) : Int) h
  have hn : (esc P).length < 1000000 := by have := HLS.out; omega
  cases Q with
  | nil =>
   obtain rfl : F = P := by rw [hPQ, List.append_nil]
   have hx0 : bt s ((esc F).length : Int) = 0 := hx0
   have hx1 : bt s (((esc F).length : Int) + 1) = 0 := hx1
   clear hPQ hsPQ hPF hlen
   have hn0 : (esc F).length + 11 = s.size := HLS.out.symm
   have hr : bytesOf (s.extract ((esc F).length + 2) s.size) = be 8 N ++ [kd] := by
    rw [bytesOf_extract_from,hs,List.drop_append,List.drop_eq_nil_of_le (by omega),List.nil_append,show (esc F).length + 2 - (esc F).length = 2 by omega];rfl
   have hr9 : (s.extract ((esc F).length + 2) s.size).size = 9 := by rw [← bytesOf_length, hr]; simp [be_length]
   have HN0 := Aside0.mk hn0
   clear hn0
   simp only [hx0] at b1
   simp only [hx1] at b2
   have p1 : ((0 : Int) ≤ ((esc F).length : Int)) = True := eq_true (by omega)
   have p2 : (((esc F).length : Int) < (s.size : Int)) = True := eq_true (by have := HLS.out; omega)
   have p3 : ((0 : Int) ≤ ((esc F).length : Int) + 1) = True := eq_true (by omega)
   have p4 : (((esc F).length : Int) + 1 < (s.size : Int)) = True := eq_true (by have := HLS.out; omega)
   have p5 : (((esc F).length : Int) + 1 + 1 ≤ (s.size : Int)) = True := eq_true (by have := HLS.out; omega)
   have p6 : ((0 : Int) ≤ ((esc F).length : Int) + 1 + 1) = True := eq_true (by omega)
   have hr8 := bt_getD (s.extract ((esc F).length + 1 + 1) s.size) 8
   rw [hr] at hr8
   have hr8' : bt (s.extract ((esc F).length + 1 + 1) s.size) 8 = kd := hr8.trans (by simp [be])
   have b3 : ∀ h : 8 < (s.extract ((esc F).length + 1 + 1) s.size).size,(((s.extract ((esc F).length + 1 + 1) s.size)[8]'h).toNat : Int) = kd:=fun h=>(bt_at _ 8 h).trans hr8'
   have HR := Aside0.mk hr
   clear hr hr8 hr8'
   have hk1 : ((1 : Int) < kd) = False := eq_false (by omega)
   go_wp2
   generalize s.extract ((esc F).length + 1 + 1) s.size = r at *
   go_loopg [8,56] 8 (fun kx s8 s56 w2=>∃ j : Nat,s8 = .int .u64 ((N / 256 ^ (8 - j) : Nat) : Int)∧s56 = .int .i64 j∧j ≤ 8∧8 - j ≤ kx∧w2 = wr)
   case atStart => exact ⟨0, by rw [Nat.div_eq_of_lt hN]; rfl, rfl, by omega, by omega, rfl⟩
   case round =>
    obtain ⟨j, rfl, rfl, hj8, hjk, rfl⟩ := hrel
    by_cases hj : j < 8
    ·cases gk with
     | zero => omega
     | succ k1 =>
     have hbj := bt_getD r j
     have b4 : ∀ h : j < r.size, ((r[j]'h).toNat : Int) = bt r (j : Int) := fun h => bt_at r (j : Int) h
     rw [HR.out, be_getD 8 N j _ hj, show 8 - 1 - j = 7 - j by omega] at hbj
     simp only [hbj] at b4
     have q1 : ((j : Int) < 8) = True := eq_true (by omega)
     have q2 : ((0 : Int) ≤ (j : Int)) = True := eq_true (by omega)
     have q3 : ((j : Int) < (r.size : Int)) = True := eq_true (by omega)
     have q4 : (j < r.size) = True := eq_true (by omega)
     have hst := Aside0.mk (be_step2 N j hj hN)
     go_wp2
     go_roundg k1
     case measure => omega
     case rel => exact ⟨j + 1, congrArg (Value.int .u64) hst.out, rfl, by omega, by omega, rfl⟩
    ·obtain rfl : j = 8 := by omega
     have hy1 := (HB.out.block w.heap.size (by omega)).trans hz1
     have hy2 := (HB.out.block (w.heap.size + 1) (by omega)).trans hz2
     have y0 := (blk_cell hy1 0).trans rfl
     have x0 := (blk_cell hy2 0).trans rfl
     have fy0 := blk_frozen hy1 0
     have fx0 := blk_frozen hy2 0
     have y1 := (blk_cell hy1 1).trans rfl
     have x1 := (blk_cell hy2 1).trans rfl
     have fy1 := blk_frozen hy1 1
     have fx1 := blk_frozen hy2 1
     have y2 := (blk_cell hy1 2).trans rfl
     have x2 := (blk_cell hy2 2).trans rfl
     have fy2 := blk_frozen hy1 2
     have fx2 := blk_frozen hy2 2
     have y3 := (blk_cell hy1 3).trans rfl
     have x3 := (blk_cell hy2 3).trans rfl
     have fy3 := blk_frozen hy1 3
     have fx3 := blk_frozen hy2 3
     have y4 := (blk_cell hy1 4).trans rfl
     have x4 := (blk_cell hy2 4).trans rfl
     have fy4 := blk_frozen hy1 4
     have fx4 := blk_frozen hy2 4
     have hcv := own_string (P := Try.prog) Try.underlying43 Try.underlying5 Try.underlying9 (Kd.own_of_R HO.out)
     have hcv2:=own_string (P:=Try.prog) Try.underlying43 Try.underlying5 Try.underlying9 (Kd.own_of_R (Kd.R_drew HO.out))
     go_wp2
     go_region
     have HW3 : Aside0 (Below w.heap.size w (((wr.setCell ⟨w.heap.size + 1,0,none⟩ (.string (strOfNums F))).setCell ⟨w.heap.size + 1,1,none⟩ (.int .i64 (wrap64 (4611686018427387904 - wrap64 (N : Int))))).setCell ⟨w.heap.size + 1,2,none⟩ (.int .i64 (1 - kd))).drew):=⟨below_drew1 (below_set (below_set (below_set (below_step HB0.out HB.out) (by omega)) (by omega)) (by omega))⟩
     have ky2 : ((((wr.setCell ⟨w.heap.size + 1,0,none⟩ (.string (strOfNums F))).setCell ⟨w.heap.size + 1,1,none⟩ (.int .i64 (wrap64 (4611686018427387904 - wrap64 (N : Int))))).setCell ⟨w.heap.size + 1,2,none⟩ (.int .i64 (1 - kd))).drew).heap[w.heap.size + 1]? = some (.cells #[.string (strOfNums F),.int .i64 (wrap64 (4611686018427387904 - wrap64 (N : Int))),.int .i64 (1 - kd),.string ⟨#[]⟩,.string ⟨#[]⟩] 28 (0,0)):=blk_drew (blk_put (blk_put (blk_put hy2 0 _ rfl) 1 _ rfl) 2 _ rfl)
     have ky1 : ((((wr.setCell ⟨w.heap.size + 1,0,none⟩ (.string (strOfNums F))).setCell ⟨w.heap.size + 1,1,none⟩ (.int .i64 (wrap64 (4611686018427387904 - wrap64 (N : Int))))).setCell ⟨w.heap.size + 1,2,none⟩ (.int .i64 (1 - kd))).drew).heap[w.heap.size]? = some (.cells #[.string ⟨#[]⟩,.int .i64 0,.int .i64 0,.string ⟨#[]⟩,.string ⟨#[]⟩] 28 (0,0)):=blk_drew (blk_far (blk_far (blk_far hy1 (by show w.heap.size ≠ w.heap.size + 1;omega) _) (by show w.heap.size ≠ w.heap.size + 1;omega) _) (by show w.heap.size ≠ w.heap.size + 1;omega) _)
     generalize (((wr.setCell ⟨w.heap.size + 1,0,none⟩ (.string (strOfNums F))).setCell ⟨w.heap.size + 1,1,none⟩ (.int .i64 (wrap64 (4611686018427387904 - wrap64 (N : Int))))).setCell ⟨w.heap.size + 1,2,none⟩ (.int .i64 (1 - kd))).drew = w3 at HW3 ky1 ky2 ⊢
     clear y0 x0 fy0 fx0 y1 x1 fy1 fx1 y2 x2 fy2 fx2 y3 x3 fy3 fx3 y4 x4 fy4 fx4 hy1 hy2 hcv hcv2
     have y0 := (blk_cell ky1 0).trans rfl
     have x0 := (blk_cell ky2 0).trans rfl
     have fy0 := blk_frozen ky1 0
     have fx0 := blk_frozen ky2 0
     have y1 := (blk_cell ky1 1).trans rfl
     have x1 := (blk_cell ky2 1).trans rfl
     have fy1 := blk_frozen ky1 1
     have fx1 := blk_frozen ky2 1
     have y2 := (blk_cell ky1 2).trans rfl
     have x2 := (blk_cell ky2 2).trans rfl
     have fy2 := blk_frozen ky1 2
     have fx2 := blk_frozen ky2 2
     have y3 := (blk_cell ky1 3).trans rfl
     have x3 := (blk_cell ky2 3).trans rfl
     have fy3 := blk_frozen ky1 3
     have fx3 := blk_frozen ky2 3
     have y4 := (blk_cell ky1 4).trans rfl
     have x4 := (blk_cell ky2 4).trans rfl
     have fy4 := blk_frozen ky1 4
     have fx4 := blk_frozen ky2 4
     go_wp2
     repeat (go_quiet (fail); try go_wp2)
     refine bodyPost_ret (results_ct rfl _ _ w.heap.size 28 #[.string (strOfNums F),.int .i64 (wrap64 (4611686018427387904 - wrap64 (N : Int))),.int .i64 (1 - kd),.string ⟨#[]⟩,.string ⟨#[]⟩] (0,0) _ rfl (by (with_reducible repeat (first | refine blk_drewN ?_ _ | refine blk_drew ?_ | refine blk_alloc ?_ _));refine blk_put (cs:=#[.string (strOfNums F),.int .i64 (wrap64 (4611686018427387904 - wrap64 (N : Int))),.int .i64 (1 - kd),.string ⟨#[]⟩,.string ⟨#[]⟩]) ?_ 4 _ rfl;(with_reducible repeat (first | refine blk_drewN ?_ _ | refine blk_drew ?_ | refine blk_alloc ?_ _));refine blk_put (cs:=#[.string (strOfNums F),.int .i64 (wrap64 (4611686018427387904 - wrap64 (N : Int))),.int .i64 (1 - kd),.string ⟨#[]⟩,.string ⟨#[]⟩]) ?_ 3 _ rfl;(with_reducible repeat (first | refine blk_drewN ?_ _ | refine blk_drew ?_ | refine blk_alloc ?_ _));refine blk_put (cs:=#[.string (strOfNums F),.int .i64 (wrap64 (4611686018427387904 - wrap64 (N : Int))),.int .i64 0,.string ⟨#[]⟩,.string ⟨#[]⟩]) ?_ 2 _ rfl;(with_reducible repeat (first | refine blk_drewN ?_ _ | refine blk_drew ?_ | refine blk_alloc ?_ _));refine blk_put (cs:=#[.string (strOfNums F),.int .i64 0,.int .i64 0,.string ⟨#[]⟩,.string ⟨#[]⟩]) ?_ 1 _ rfl;(with_reducible repeat (first | refine blk_drewN ?_ _ | refine blk_drew ?_ | refine blk_alloc ?_ _));refine blk_put (cs:=#[.string ⟨#[]⟩,.int .i64 0,.int .i64 0,.string ⟨#[]⟩,.string ⟨#[]⟩]) ?_ 0 _ rfl;(with_reducible repeat (first | refine blk_drewN ?_ _ | refine blk_drew ?_ | refine blk_alloc ?_ _));exact ky1) Try.underlying28 rfl rfl) rfl ?_
     exact ⟨by first | rfl | simp,by repeat (first | exact HW3.out | refine below_set ?_ (by omega) | apply below_alloc | apply pw_below_drewN | apply below_drew1)⟩
  | cons x Q1 =>
   have hFx : F = (P ++ [x]) ++ Q1 := by rw [hPQ, List.append_assoc]; rfl
   have hesc : esc (x :: Q1) = esc [x] ++ esc Q1 := esc_append [x] Q1
   have hlc : (esc P).length + (esc [x]).length + (esc Q1).length = (esc F).length:=by rw [← hlen,hesc,List.length_append];omega
   have hs2 : bytesOf s = esc (P ++ [x]) ++ (esc Q1 ++ ([0,0] ++ (be 8 N ++ [kd]))):=by rw [hsPQ,hesc,esc_append];simp only [List.append_assoc]
   have hl2 : (esc (P ++ [x])).length + (esc Q1).length = (esc F).length:=by rw [esc_append,List.length_append];omega
   cases gk with
   | zero => simp at hQk
   | succ k1 =>
   by_cases hx : x = 0
   ·subst hx
    have hx0 : bt s ((esc P).length : Int) = 0 := hx0
    have hx1 : bt s (((esc P).length : Int) + 1) = 1 := hx1
    have he : (esc [0]).length = 2 := rfl
    have hle : (esc (P ++ [0])).length = (esc P).length + 2 := by rw [esc_append, List.length_append, he]
    simp only [hx0] at b1
    simp only [hx1] at b2
    have p1 : ((0 : Int) ≤ ((esc P).length : Int)) = True := eq_true (by omega)
    have p2 : (((esc P).length : Int) < (s.size : Int)) = True := eq_true (by have := HLS.out; omega)
    have p3 : ((0 : Int) ≤ ((esc P).length : Int) + 1) = True := eq_true (by omega)
    have p4 : (((esc P).length : Int) + 1 < (s.size : Int)) = True := eq_true (by have := HLS.out; omega)
    go_wp2_with (first | ((with_reducible refine gate_builtin (b:=.append) (xs:=#[.tmp 34,.tmp 35]) rfl ?_);at_builtin;refine Kd.R_append (Kd.int .u8) (w0:=W0) W0.heap.size rfl (.tmp 34) (.tmp 35) 43 5 (.int .u8 0) 1 rfl Try.underlying43 info5 rfl (by decide) (by omega) u5 P 0 [.int .u8 0] (fun _=>True) (fun _=>False) rfl rfl ?aP (fun _ hk=>hk.elim) ?aF ?aO ?aB ?aS ?aL ?_;(case aP=>exact rfl);(case aB=>exact (by repeat (first | exact HB.out | apply below_alloc | apply pw_below_drewN | apply below_drew1)));(case aF=>exact (fun _ _=>trivial));(case aO=>exact (by (with_reducible repeat (first | apply Kd.R_alloc | apply Kd.R_drewN | apply Kd.R_drew));exact HO.out));(case aS=>exact (below_size (by repeat (first | exact HB.out | apply below_alloc | apply pw_below_drewN | apply below_drew1))));(case aL=>omega);intro v1 w1 ho hb hg hat;have HO1:=Aside0.mk ho;have HB1:=Aside0.mk hb;clear ho hb hg hat))
    go_roundg k1
    case measure => omega
    case rel=>exact ⟨P ++ [0],Q1,hFx,by rw [hle];rfl,by simp only [List.length_cons] at hQk;omega,hs2,hl2,HO1,HB1⟩
   ·have hx0 : bt s ((esc P).length : Int) = x := hx0.trans (by unfold esc; rw [if_neg hx]; rfl)
    have he : (esc [x]).length = 1 := by unfold esc; rw [if_neg hx]; rfl
    have hle : (esc (P ++ [x])).length = (esc P).length + 1 := by rw [esc_append, List.length_append, he]
    have hxb : (x == 0) = false := beq_eq_false_iff_ne.2 hx
    have hxb2 : (x != 0) = true := bne_iff_ne.2 hx
    simp only [hx0] at b1
    have p1 : ((0 : Int) ≤ ((esc P).length : Int)) = True := eq_true (by omega)
    have p2 : (((esc P).length : Int) < (s.size : Int)) = True := eq_true (by have := HLS.out; omega)
    have p4 : (((esc P).length : Int) + 1 < (s.size : Int)) = True := eq_true (by have := HLS.out; omega)
    go_wp2_with (first | ((with_reducible refine gate_builtin (b:=.append) (xs:=#[.tmp 22,.tmp 26]) rfl ?_);at_builtin;refine Kd.R_append (Kd.int .u8) (w0:=W0) W0.heap.size rfl (.tmp 22) (.tmp 26) 43 5 (.int .u8 0) 1 rfl Try.underlying43 info5 rfl (by decide) (by omega) u5 P x [.int .u8 x] (fun _=>True) (fun _=>False) rfl rfl ?aP (fun _ hk=>hk.elim) ?aF ?aO ?aB ?aS ?aL ?_;(case aP=>exact rfl);(case aB=>exact (by repeat (first | exact HB.out | apply below_alloc | apply pw_below_drewN | apply below_drew1)));(case aF=>exact (fun _ _=>trivial));(case aO=>exact (by (with_reducible repeat (first | apply Kd.R_alloc | apply Kd.R_drewN | apply Kd.R_drew));exact HO.out));(case aS=>exact (below_size (by repeat (first | exact HB.out | apply below_alloc | apply pw_below_drewN | apply below_drew1))));(case aL=>omega);intro v1 w1 ho hb hg hat;have HO1:=Aside0.mk ho;have HB1:=Aside0.mk hb;clear ho hb hg hat))
    go_roundg k1
    case measure => omega
    case rel=>exact ⟨P ++ [x],Q1,hFx,by rw [hle];rfl,by simp only [List.length_cons] at hQk;omega,hs2,hl2,HO1,HB1⟩
end Go.Proofs.Ytenmljkddhonmaa.MTbl

/- Numbers as bytes: what varint's Get comes to. -/
namespace Go.Proofs.Ytenmljkddhonmaa.QTbl
open Go.RowKit Go.Proofs.Ytenmljkddhonmaa.MTbl Go.Proofs.Ytenmljkddhonmaa.QTbl Go.Proofs.YtenmljkddhonmaaW.PrintWords Go.Proofs.YtenmljkddhonmaaW.PrintLast Go.Proofs.YtenmljkddhonmaaW.PrintMore
set_option linter.unusedVariables false
set_option linter.unusedSimpArgs false
/-- The number that bytes' lower seven bits make. -/
def val : List Int → Nat
 | [] => 0
 | c :: t => (c % 128).toNat + 128 * val t

theorem val_lt : ∀ l : List Int, val l < 128 ^ l.length
 | [] => by simp [val]
 | c :: t => by
  have := val_lt t
  simp only [val, List.length_cons, Nat.pow_succ]
  omega

theorem val_append : ∀ (l m : List Int), val (l ++ m) = val l + 128 ^ l.length * val m
 | [], m => by simp [val]
 | c :: t, m => by
  simp only [val, List.cons_append, List.length_cons, Nat.pow_succ, val_append t m]
  rw [Nat.mul_add, ← Nat.mul_assoc, Nat.mul_comm 128 (128 ^ t.length)]
  omega

theorem val_take_succ (l : List Int) (i : Nat) (h : i < l.length) : val (l.take (i + 1)) = val (l.take i) + 128 ^ i * (l.getD i 0 % 128).toNat:=by
 rw [take_succ_getD l i h, val_append, List.length_take, Nat.min_eq_left (by omega)]; simp [val]

/-- What is read from place i on. -/
def getG (l : List Int) (i : Nat) : Int × Int :=
 if i < l.length then (if l.getD i 0 > 127 then getG l (i + 1) else if (i > 0∧l.getD i 0 = 0) ∨ (i = 9∧l.getD i 0 > 1) then (0,0) else ((val (l.take (i + 1)) : Int),(i : Int) + 1)) else (0,0)
termination_by l.length - i

theorem and127 : ∀ x : Fin 256, Go.bits .and .u8 (x.val : Int) 127 = ((x.val % 128 : Nat) : Int) := by decide +kernel
theorem and127' {x : Int} (h0 : 0 ≤ x) (h1 : x < 256) : Go.bits .and .u8 x 127 = x % 128 := by
 obtain ⟨n, rfl⟩ := Int.eq_ofNat_of_zero_le h0
 have := and127 ⟨n, by omega⟩
 simp only at this
 rw [this]; omega

theorem pow128 (i : Nat) : (2 : Nat) ^ (7 * i) = 128 ^ i := by rw [Nat.pow_mul]

/-- One byte more. -/
theorem or_step (l : List Int) (i : Nat) (hi : i < l.length) (hl : l.length ≤ 10) (hb : Bytes l) (hc : i < 9 ∨ l.getD i 0 ≤ 1) :
  Go.bits .or .u64 (val (l.take i) : Int) (shl .u64 (IntKind.u64.wrap (Go.bits .and .u8 (l.getD i 0) 127)) (wrap64 (7 * (i : Int)))) = (val (l.take (i + 1)) : Int):=by
 have hg := hb.getD i
 generalize hc' : l.getD i 0 = c at *
 rw [and127' hg.1 hg.2, wrap64_id (by omega) (by omega), u64_id (by omega) (by omega)]
 unfold shl
 obtain ⟨m, hm⟩ : ∃ m : Nat, c % 128 = (m : Int) := ⟨(c % 128).toNat, by omega⟩
 have e7 : min (7 * (i : Int)).toNat IntKind.u64.bits = 7 * i := by
  rw [show (7 * (i : Int)).toNat = 7 * i by omega]
  exact Nat.min_eq_left (by show 7 * i ≤ 64; omega)
 have hlt : m * 128 ^ i < 2 ^ 64 := by
  have hp : 128 ^ i ≤ 128 ^ 9 := Nat.pow_le_pow_right (by decide) (by omega)
  rcases Nat.lt_or_ge i 9 with h | h
  ·have hp : 128 ^ i ≤ 128 ^ 8 := Nat.pow_le_pow_right (by decide) (by omega)
   have hm' : m ≤ 127 := by omega
   calc m * 128 ^ i ≤ 127 * 128 ^ 8 := Nat.mul_le_mul hm' hp
    _ < 2 ^ 64 := by decide
  ·have hm' : m ≤ 1 := by omega
   calc m * 128 ^ i ≤ 1 * 128 ^ 9 := Nat.mul_le_mul hm' hp
    _ < 2 ^ 64 := by decide
 have e2 : (m : Int) * 2 ^ (7 * i) = ((m * 128 ^ i : Nat) : Int) := by
  rw [← pow128]; simp
 have hv := val_lt (l.take i)
 rw [List.length_take, Nat.min_eq_left (by omega)] at hv
 have hv64 : val (l.take i) < 2 ^ 64:=Nat.lt_of_lt_of_le hv (Nat.le_trans (Nat.pow_le_pow_right (by decide) (show i ≤ 9 by omega)) (by decide))
 have hw : IntKind.u64.wrap ((m * 128 ^ i : Nat) : Int) = ((m * 128 ^ i : Nat) : Int):=u64wraps _ (by omega) (by exact_mod_cast hlt)
 rw [e7,hm,e2,hw,or_low (i:=7 * i) (by rw [pow128];exact hv) (by rw [pow128];exact Nat.mul_mod_left _ _) hv64 hlt,val_take_succ l i hi,hc',hm]
 simp [Nat.mul_comm]

theorem getG_step {l : List Int} {i : Nat} (hi : i < l.length) (hc : l.getD i 0 > 127) : getG l i = getG l (i + 1) := by
 rw [getG, if_pos hi, if_pos hc]
theorem getG_none {l : List Int} {i : Nat} (hi : l.length ≤ i) : getG l i = (0, 0) := by
 rw [getG, if_neg (by omega)]

theorem Get_l0 (l : List Int) (hl : l.length ≤ 10) (hb : Bytes l) (d : Nat) : ∀ (i : Nat) (x : Int),l.length - i = d → i ≤ l.length → (i < 10 → x = (val (l.take i) : Int)) → Ev (fun k=>varint_Get.l0 k x l (l.length : Int) (i : Int)) (getG l i):=by
 induction d with
 | zero =>
  intro i x hd hi hx
  refine Ev.succ ?_
  simp only [varint_Get.l0]
  refine Ev.ite_neg (by omega) ?_
  rw [getG_none (by omega)]
  exact Ev.now _
 | succ d ih =>
  intro i x hd hi hx
  have hlt : i < l.length := by omega
  refine Ev.succ ?_
  simp only [varint_Get.l0]
  refine Ev.ite_pos (by omega) (Ev.ite_pos (by omega) (Ev.ite_pos (by omega) (Ev.ite_pos (by rw [wrap64_id (by omega) (by omega)];omega) ?_)))
  rw [rd_nat, wrap64_id (n := (i : Int) + 1) (by omega) (by omega)]
  by_cases hc : l.getD i 0 > 127
  ·refine Ev.ite_pos hc ?_
   rw [getG_step hlt hc]
   refine ih (i + 1) _ (by omega) (by omega) (fun h10 => ?_)
   rw [hx (by omega)]
   exact or_step l i hlt hl hb (.inl (by omega))
  ·refine Ev.ite_neg hc ?_
   have hor : (i = 9 → l.getD i 0 ≤ 1) → Go.bits .or .u64 x (shl .u64 (IntKind.u64.wrap (Go.bits .and .u8 (l.getD i 0) 127)) (wrap64 (7 * (i : Int)))) = (val (l.take (i + 1)) : Int):=by
    intro h9
    rw [hx (by omega)]
    exact or_step l i hlt hl hb (by omega)
   have eg : getG l i = if (i > 0∧l.getD i 0 = 0) ∨ (i = 9∧l.getD i 0 > 1) then (0,0) else ((val (l.take (i + 1)) : Int),(i : Int) + 1):=by
    rw [getG, if_pos hlt, if_neg hc]
   by_cases h0 : i > 0 ∧ l.getD i 0 = 0
   ·replace eg := eg.trans (if_pos (Or.inl h0))
    rw [eg]
    exact Ev.ite_pos (by omega) (Ev.ite_pos h0.2 (Ev.now _))
   ·by_cases h9 : i = 9 ∧ l.getD i 0 > 1
    ·replace eg := eg.trans (if_pos (Or.inr h9))
     rw [eg]
     exact Ev.ite_pos (by omega) (Ev.ite_neg (by omega) (Ev.ite_pos (by omega) (Ev.ite_pos h9.2 (Ev.now _))))
    ·replace eg := eg.trans (if_neg (by omega))
     rw [eg, ← hor (by omega)]
     by_cases hi0 : (i : Int) > 0
     ·refine Ev.ite_pos hi0 (Ev.ite_neg (by omega) ?_)
      by_cases hi9 : (i : Int) = 9
      ·exact Ev.ite_pos hi9 (Ev.ite_neg (by omega) (Ev.now _))
      ·exact Ev.ite_neg hi9 (Ev.now _)
     ·refine Ev.ite_neg hi0 ?_
      exact Ev.ite_neg (by omega) (Ev.now _)

def get (l : List Int) : Int × Int := getG (l.take 10) 0

theorem mn10 (n : Nat) : mn (n : Int) 10 = ((min n 10 : Nat) : Int) := by unfold mn; split <;> omega

theorem Get_ev {l : List Int} (hb : Bytes l) : Ev (fun k => varint_Get.f k l) (get l) := by
 have h := Get_l0 (l.take 10) (by simp; omega) (hb.take 10) _ 0 0 rfl (by omega) (fun _ => by simp [val])
 unfold varint_Get.f get
 rw [mn10]
 refine Ev.ite_pos (by omega) (Ev.ite_pos (by omega) ?_)
 simp only [Option.bind_some]
 rw [show (((min l.length 10 : Nat) : Int)).toNat = min l.length 10 by omega]
 rw [show l.take (min l.length 10) = l.take 10 by rw [List.take_eq_take_min (i := 10), Nat.min_comm]]
 exact h
end Go.Proofs.Ytenmljkddhonmaa.QTbl

/- Texts as bytes: what varint's GetText comes to. -/
namespace Go.Proofs.Ytenmljkddhonmaa.QTbl
open Go.RowKit Go.Proofs.Ytenmljkddhonmaa.MTbl Go.Proofs.Ytenmljkddhonmaa.QTbl Go.Proofs.YtenmljkddhonmaaW.PrintWords Go.Proofs.YtenmljkddhonmaaW.PrintLast Go.Proofs.YtenmljkddhonmaaW.PrintMore
set_option linter.unusedVariables false
set_option linter.unusedSimpArgs false
theorem getG_bound (l : List Int) (hl : l.length ≤ 10) (hb : Bytes l) (d : Nat) : ∀ i,l.length - i = d → 0 ≤ (getG l i).1∧(getG l i).1 < 18446744073709551616∧0 ≤ (getG l i).2∧(getG l i).2 ≤ l.length:=by
 induction d with
 | zero => intro i hd; rw [getG_none (by omega)]; simp
 | succ d ih =>
  intro i hd
  have hlt : i < l.length := by omega
  by_cases h1 : l.getD i 0 > 127
  ·rw [getG_step hlt h1]; exact ih (i + 1) (by omega)
  ·rw [getG, if_pos hlt, if_neg h1]
   split
   ·simp
   ·rename_i h2
    have hv : val (l.take (i + 1)) < 2 ^ 64 := by
     rw [val_take_succ l i hlt]
     have h3 := val_lt (l.take i)
     rw [List.length_take, Nat.min_eq_left (by omega)] at h3
     have hg := hb.getD i
     rcases Nat.lt_or_ge i 9 with h | h
     ·have hp : 128 ^ i ≤ 128 ^ 8 := Nat.pow_le_pow_right (by decide) (by omega)
      have hm : (l.getD i 0 % 128).toNat ≤ 127 := by omega
      have := Nat.mul_le_mul hp hm
      have e : (128 : Nat) ^ 8 * 127 + 128 ^ 8 ≤ 2 ^ 64 := by decide
      omega
     ·have hi : i = 9 := by omega
      subst hi
      have hm : (l.getD 9 0 % 128).toNat ≤ 1 := by omega
      have := Nat.mul_le_mul (Nat.le_refl (128 ^ 9)) hm
      have e : (128 : Nat) ^ 9 * 1 + 128 ^ 9 ≤ 2 ^ 64 := by decide
      omega
    refine ⟨by simp only; omega, ?_, by simp only; omega, by simp only; omega⟩
    have e : (2 : Nat) ^ 64 = 18446744073709551616 := by decide
    simp only
    omega

theorem get_bound {l : List Int} (hb : Bytes l) : 0 ≤ (get l).1∧(get l).1 < 18446744073709551616∧0 ≤ (get l).2∧(get l).2 ≤ l.length:=by
 have h := getG_bound (l.take 10) (by rw [List.length_take]; omega) (hb.take 10) _ 0 rfl
 rw [List.length_take] at h
 unfold get
 omega

/-- A text, and where it ends. -/
def getText (l : List Int) : ByteArray × Int :=
 if (get l).2 = 0 then (⟨#[]⟩,0) else if (get l).1 > (l.length : Int) - (get l).2 then (⟨#[]⟩,0) else (strOfNums ((l.take ((get l).2 + (get l).1).toNat).drop (get l).2.toNat),(get l).2 + (get l).1)

/-- The one form that both GetText have. -/
def textForm (l : List Int) (g : Int × Int) : Option (ByteArray × Int) :=
 (if g.2 = 0 then (some ((⟨#[]⟩ : ByteArray),0)) else (if g.1 > (IntKind.u64.wrap (wrap64 ((l.length : Int) - g.2))) then (some ((⟨#[]⟩ : ByteArray),0)) else (if 0 ≤ g.2 then (if g.2 ≤ (wrap64 (g.2 + (wrap64 (g.1)))) then (if (wrap64 (g.2 + (wrap64 (g.1)))) ≤ (l.length : Int) then (some (strOfNums ((l.take ((wrap64 (g.2 + (wrap64 (g.1)))) : Int).toNat).drop (g.2 : Int).toNat),wrap64 (g.2 + (wrap64 (g.1))))) else (none)) else (none)) else (none))))

theorem textForm_get {l : List Int} (hb : Bytes l) (hl : l.length ≤ 4611686018427387904) : textForm l (get l) = some (getText l):=by
 obtain ⟨h1, h2, h3, h4⟩ := get_bound hb
 unfold textForm getText
 generalize get l = g at *
 obtain ⟨n, k⟩ := g
 simp only at *
 by_cases c1 : k = 0
 ·rw [if_pos c1, if_pos c1]
 ·rw [if_neg c1, if_neg c1, wrap64_id (n := (l.length : Int) - k) (by omega) (by omega), u64_id (by omega) (by omega)]
  by_cases c2 : n > (l.length : Int) - k
  ·rw [if_pos c2, if_pos c2]
  ·rw [if_neg c2,if_neg c2,wrap64_id (n:=n) (by omega) (by omega),wrap64_id (n:=k + n) (by omega) (by omega),if_pos h3,if_pos (by omega),if_pos (by omega)]

theorem GetText_ev {l : List Int} (hb : Bytes l) (hl : l.length ≤ 4611686018427387904) : Ev (fun k=>varint_GetText.f k l) (getText l):=by
 unfold varint_GetText.f
 refine Ev.bind (Get_ev hb) (Ev.same ?_)
 exact textForm_get hb hl
end Go.Proofs.Ytenmljkddhonmaa.QTbl

/- A number that was written is read again. -/
namespace Go.Proofs.Ytenmljkddhonmaa.QTbl
open Go.RowKit Go.Proofs.Ytenmljkddhonmaa.MTbl Go.Proofs.Ytenmljkddhonmaa.QTbl Go.Proofs.YtenmljkddhonmaaW.PrintWords Go.Proofs.YtenmljkddhonmaaW.PrintLast Go.Proofs.YtenmljkddhonmaaW.PrintMore
set_option linter.unusedVariables false
set_option linter.unusedSimpArgs false
theorem fixput (n : Nat) (j : Nat) : ∀ n : Nat, n < 128 ^ (j + 1) → val (put n) = n := by
 induction j with
 | zero => intro n h; rw [put_small (by simpa using h)]; simp only [val]; have : n < 128 := by simpa using h
           omega
 | succ j ih =>
  intro n h
  by_cases h1 : n < 128
  ·rw [put_small h1]; simp only [val]; omega
  ·rw [put_big h1]
   simp only [val]
   rw [ih (n / 128) (by rw [Nat.div_lt_iff_lt_mul (by omega)]; rw [Nat.pow_succ] at h; exact h)]
   omega
theorem val_put {n : Nat} (h : n < 18446744073709551616) : val (put n) = n := fixput n 9 n (Nat.lt_trans h (by decide))

/-- All but the last one go on; the last one doesn't, and is no nought but of nought. -/
theorem put_shape (j : Nat) : ∀ n : Nat,n < 128 ^ (j + 1) → Bytes (put n)∧1 ≤ (put n).length∧(∀ i,i + 1 < (put n).length → (put n).getD i 0 > 127)∧(put n).getD ((put n).length - 1) 0 ≤ 127∧(1 < (put n).length → (put n).getD ((put n).length - 1) 0 ≠ 0)∧((put n).length = 1 ∨ 128 ^ ((put n).length - 1) * ((put n).getD ((put n).length - 1) 0).toNat ≤ n):=by
 induction j with
 | zero =>
  intro n h
  have h' : n < 128 := by simpa using h
  rw [put_small h']
  exact ⟨by intro c hc; simp at hc; omega, by simp, by intro i hi; simp at hi, by simp; omega, by simp, .inl rfl⟩
 | succ j ih =>
  intro n h
  by_cases h1 : n < 128
  ·rw [put_small h1]
   exact ⟨by intro c hc; simp at hc; omega, by simp, by intro i hi; simp at hi, by simp; omega, by simp, .inl rfl⟩
  ·obtain ⟨a,b,c,d,e,f⟩:=ih (n / 128) (by rw [Nat.div_lt_iff_lt_mul (by omega)];rw [Nat.pow_succ] at h;exact h)
   have hn0 : n / 128 ≠ 0 := by omega
   rw [put_big h1]
   generalize hp : put (n / 128) = p at *
   have el : (((n % 128 + 128 : Nat) : Int) :: p).length - 1 = (p.length - 1) + 1 := by simp; omega
   have eg : (((n % 128 + 128 : Nat) : Int) :: p).getD ((((n % 128 + 128 : Nat) : Int) :: p).length - 1) 0 = p.getD (p.length - 1) 0:=by
    rw [el, List.getD_cons_succ]
   have hl1 : p.length = 1 → p.getD (p.length - 1) 0 = ((n / 128 : Nat) : Int) := by
    intro hl
    by_cases h2 : n / 128 < 128
    ·rw [← hp, put_small h2]; rfl
    ·exfalso
     rw [put_big h2] at hp
     have h3 := (ih (n / 128) (by rw [Nat.div_lt_iff_lt_mul (by omega)]; rw [Nat.pow_succ] at h; exact h)).2.1
     have h4 : 1 ≤ (put (n / 128 / 128)).length := by
      rw [put]; split <;> simp
     rw [← hp] at hl
     simp at hl
     rw [hl] at h4
     simp at h4
   refine ⟨?_, by simp, ?_, by rw [eg]; exact d, ?_, .inr ?_⟩
   ·intro x hx
    rcases List.mem_cons.1 hx with rfl | hx
    ·omega
    ·exact a x hx
   ·intro i hi
    cases i with
    | zero => simp; omega
    | succ i => simpa using c i (by simpa using hi)
   ·intro _
    rw [eg]
    rcases Nat.lt_or_ge 1 p.length with hl | hl
    ·exact e hl
    ·rw [hl1 (by omega)]; omega
   ·rw [eg, el, Nat.pow_succ]
    rcases f with f | f
    ·rw [hl1 f, f]; simp; omega
    ·have : 128 ^ (p.length - 1) * 128 * (p.getD (p.length - 1) 0).toNat = 128 ^ (p.length - 1) * (p.getD (p.length - 1) 0).toNat * 128:=by
      rw [Nat.mul_assoc, Nat.mul_comm 128, Nat.mul_assoc]
     omega

theorem getG_go (l : List Int) (m : Nat) (hm : m < l.length) (h : ∀ i,i < m → l.getD i 0 > 127) (d : Nat) : ∀ i,m - i = d → i ≤ m → getG l i = getG l m:=by
 induction d with
 | zero => intro i hd hi; rw [show i = m by omega]
 | succ d ih =>
  intro i hd hi
  rw [getG_step (by omega) (h i (by omega))]
  exact ih (i + 1) (by omega) (by omega)

theorem get_put {n : Nat} (h : n < 18446744073709551616) (rest : List Int) : get (put n ++ rest) = ((n : Int),((put n).length : Int)):=by
 obtain ⟨hb, h1, h2, h3, h4, h5⟩ := put_shape 9 n (Nat.lt_trans h (by decide))
 have h10 := put_length10 h
 have hv := val_put h
 generalize put n = p at *
 have hg : ∀ i, i < p.length → ((p ++ rest).take 10).getD i 0 = p.getD i 0 := by
  intro i hi
  rw [List.getD_eq_getElem?_getD,List.getD_eq_getElem?_getD,List.getElem?_take,if_pos (by omega),List.getElem?_append_left hi]
 have hlen : p.length ≤ ((p ++ rest).take 10).length := by rw [List.length_take, List.length_append]; omega
 unfold get
 rw [getG_go _ (p.length - 1) (by omega) (fun i hi=>by rw [hg i (by omega)];exact h2 i (by omega)) _ 0 rfl (by omega)]
 have hn9 : ¬ (p.length - 1 = 9 ∧ p.getD (p.length - 1) 0 > 1) := by
  rintro ⟨e, hgt⟩
  rcases h5 with h5 | h5
  ·omega
  ·rw [e] at h5
   have : (128 : Nat) ^ 9 * 2 = 18446744073709551616 := by decide
   have h6 : 2 ≤ (p.getD 9 0).toNat := by rw [e] at hgt; omega
   have := Nat.mul_le_mul (Nat.le_refl (128 ^ 9)) h6
   omega
 have hn0 : ¬ (p.length - 1 > 0 ∧ p.getD (p.length - 1) 0 = 0) := by
  rintro ⟨e, hz⟩
  exact h4 (by omega) hz
 rw [getG,if_pos (by omega),hg _ (by omega),if_neg (by omega),if_neg (fun h=>h.elim hn0 hn9),show p.length - 1 + 1 = p.length by omega]
 have et : ((p ++ rest).take 10).take p.length = p := by
  rw [List.take_take, Nat.min_eq_left h10, List.take_left' rfl]
 rw [et, hv]
 congr 1
 omega
theorem put_bytes {n : Nat} (h : n < 18446744073709551616) : Bytes (put n):=(put_shape 9 n (Nat.lt_trans h (by decide))).1
theorem put_pos {n : Nat} (h : n < 18446744073709551616) : 1 ≤ (put n).length:=(put_shape 9 n (Nat.lt_trans h (by decide))).2.1
end Go.Proofs.Ytenmljkddhonmaa.QTbl

namespace Go.Proofs.Ytenmljkddhonmaa.MTbl
open Go.RowKit Go.Proofs.Ytenmljkddhonmaa.QTbl Go.Proofs.YtenmljkddhonmaaW.PrintWords Go.Proofs.YtenmljkddhonmaaW.PrintLast Go.Proofs.YtenmljkddhonmaaW.PrintMore
set_option linter.unusedVariables false
set_option linter.unusedSimpArgs false
/-- What stands behind a key. -/
def valS (e : S28) : ByteArray := strOfNums (put e.f3.size ++ bytesOf e.f3) ++ e.f4
def rowOf (e : S28) : S136 := ⟨keyS e, valS e⟩
/-- An entry that may stand in a table, and is small. -/
def okB (e : S28) : Prop := okK e ∧ e.f3.size ≤ 1000 ∧ e.f4.size ≤ 1000
theorem bytesOf_append (a b : ByteArray) : bytesOf (a ++ b) = bytesOf a ++ bytesOf b := by
 unfold bytesOf
 rw [ByteArray.data_append, Array.toList_append, List.map_append]
theorem valS_bytes {e : S28} (h : e.f3.size ≤ 1000) : bytesOf (valS e) = put e.f3.size ++ (bytesOf e.f3 ++ bytesOf e.f4):=by
 unfold valS
 rw [bytesOf_append, bytesOf_nums (Bytes.append (put_bytes (by omega)) (bytesOf_bytes _)), List.append_assoc]
theorem valS_size {e : S28} (h : e.f3.size ≤ 1000) : (valS e).size = (put e.f3.size).length + e.f3.size + e.f4.size:=by
 rw [← bytesOf_length, valS_bytes h]; simp only [List.length_append, bytesOf_length]; omega
theorem valS_text {e : S28} (h : okB e) : Ev (fun k=>varint_GetText.f k (bytesOf (valS e))) (e.f3,(((put e.f3.size).length + e.f3.size : Nat) : Int)):=by
 have hb := bytesOf_bytes (valS e)
 have:=GetText_ev hb (by rw [bytesOf_length,valS_size h.2.1];have:=put_length10 (n:=e.f3.size) (by have:=h.2.1;omega);have:=h.2.1;have:=h.2.2;omega)
 have hp := put_pos (n := e.f3.size) (by have := h.2.1; omega)
 rw [show getText (bytesOf (valS e)) = (e.f3, (((put e.f3.size).length + e.f3.size : Nat) : Int)) by
  unfold getText
  rw [valS_bytes h.2.1, get_put (by have := h.2.1; omega)]
  simp only
  rw [if_neg (by omega), if_neg (by simp only [List.length_append, bytesOf_length]; omega)]
  rw [show (((put e.f3.size).length : Int) + (e.f3.size : Int)).toNat = (put e.f3.size).length + e.f3.size by omega,Int.toNat_natCast]
  rw [← List.append_assoc,List.take_append_of_le_length (by simp only [List.length_append,bytesOf_length];omega),List.take_of_length_le (by simp only [List.length_append,bytesOf_length];omega),List.drop_left,nums_bytesOf]
  simp] at this
 exact this
theorem valS_rest {e : S28} (h : okB e) : (valS e).extract ((put e.f3.size).length + e.f3.size) (valS e).size = e.f4:=by
 rw [← nums_bytesOf ((valS e).extract _ _), bytesOf_extract_from, valS_bytes h.2.1, ← List.append_assoc]
 rw [show (put e.f3.size).length + e.f3.size = (put e.f3.size ++ bytesOf e.f3).length by simp [bytesOf_length],List.drop_left,nums_bytesOf]
theorem unkeyE.calls (e : S28) (he : okK e) (w : World) : Calls Try.prog 79 #[.string (keyS e)] w fun r w'=>r = .returned (.tuple #[.agg #[.string e.f0,.int .i64 e.f1,.int .i64 e.f2,.string ⟨#[]⟩,.string ⟨#[]⟩],.bool true])∧Below w.heap.size w w':=by
 have hl := keyL_length (e := e)
 have h30 := he.2.2
 have h1 := he.1
 have h2 := he.2.1
 have hN : keyN e < 256 ^ 8 := by unfold keyN; omega
 have:=table_unkey.calls (keyS e) (bytesOf e.f0) (keyN e) (1 - e.f2) (bytesOf_bytes _) hN (by omega) (by rw [keyS_size];omega) (by unfold keyS;rw [bytesOf_nums (keyL_bytes he)];rfl) w
 rw [nums_bytesOf,show 1 - (1 - e.f2) = e.f2 by omega,show wrap64 (4611686018427387904 - wrap64 (keyN e : Nat)) = e.f1 by
  rw [wrap64_id (n:=((keyN e : Nat) : Int)) (by omega) (by unfold keyN;omega),wrap64_id (by unfold keyN;omega) (by unfold keyN;omega)];unfold keyN;omega] at this
 exact this
end Go.Proofs.Ytenmljkddhonmaa.MTbl

namespace Go.Proofs.Ytenmljkddhonmaa.QTbl
open Go.RowKit Go.Proofs.Ytenmljkddhonmaa.MTbl Go.Proofs.YtenmljkddhonmaaW.PrintWords Go.Proofs.YtenmljkddhonmaaW.PrintLast Go.Proofs.YtenmljkddhonmaaW.PrintMore
set_option linter.unusedVariables false
set_option linter.unusedSimpArgs false
theorem getG_facts (l : List Int) (d : Nat) : ∀ i : Nat,l.length - i = d → 0 ≤ (getG l i).1∧0 ≤ (getG l i).2∧(getG l i).2 ≤ l.length:=by
 induction d with
 | zero => intro i h; rw [getG, if_neg (by omega)]; exact ⟨Int.le_refl _, Int.le_refl _, by simp⟩
 | succ d ih =>
  intro i h
  rw [getG, if_pos (by omega)]
  split
  ·exact ih (i + 1) (by omega)
  ·split
   ·exact ⟨Int.le_refl _, Int.le_refl _, by simp⟩
   ·refine ⟨by simp only; omega, by simp only; omega, by simp only; omega⟩
theorem get_facts (l : List Int) : 0 ≤ (get l).1 ∧ 0 ≤ (get l).2 ∧ (get l).2 ≤ l.length := by
 obtain ⟨h1, h2, h3⟩ := getG_facts (l.take 10) _ 0 rfl
 refine ⟨h1, h2, Int.le_trans h3 ?_⟩
 rw [List.length_take]; omega
/-- One number of a row, in a bound. -/
def rd1 (b : List Int) (L : Nat) : Option (Int × List Int):=if (get b).2 = 0 then none else if (get b).1 > (b.length : Int) + L then none else some ((get b).1,b.drop (get b).2.toNat)
/-- So many numbers. -/
def rdN : Nat → List Int → Nat → List Int → Option (List Int × List Int)
 | 0, b, _, acc => some (acc, b)
 | n + 1, b, L, acc => (rd1 b L).bind fun q => rdN n q.2 L (acc ++ [q.1])
/-- Rows, whatever stands behind them. -/
def rdR : Nat → List Int → ByteArray → List S136 → Option (List S136)
 | 0, _, _, acc => some acc
 | f + 1, b, last, acc => if b = [] then some acc else (rdN 3 b last.size []).bind fun q =>
  if q.1.getD 0 0 > last.size then none else if q.1.getD 1 0 > q.2.length then none else if q.1.getD 2 0 > (q.2.length : Int) - q.1.getD 1 0 then none else
   rdR f (q.2.drop ((q.1.getD 1 0).toNat + (q.1.getD 2 0).toNat)) (last.extract 0 (q.1.getD 0 0).toNat ++ strOfNums (q.2.take (q.1.getD 1 0).toNat)) (acc ++ [⟨last.extract 0 (q.1.getD 0 0).toNat ++ strOfNums (q.2.take (q.1.getD 1 0).toNat),strOfNums ((q.2.take ((q.1.getD 1 0).toNat + (q.1.getD 2 0).toNat)).drop (q.1.getD 1 0).toNat)⟩])
theorem rd1_facts {b : List Int} {L : Nat} {x : Int} {r : List Int} (h : rd1 b L = some (x,r)) : 0 ≤ x∧x ≤ (b.length : Int) + L∧r.length < b.length∧∃ m : Nat,m ≤ b.length∧r = b.drop m:=by
 unfold rd1 at h
 split at h
 ·cases h
 ·split at h
  ·cases h
  ·rename_i h1 h2
   simp only [Option.some.injEq, Prod.mk.injEq] at h
   obtain ⟨rfl, rfl⟩ := h
   obtain ⟨h3, h4, h5⟩ := get_facts b
   refine ⟨h3, by omega, by rw [List.length_drop]; omega, _, by omega, rfl⟩
end Go.Proofs.Ytenmljkddhonmaa.QTbl

namespace Go.Proofs.Ytenmljkddhonmaa.QTbl
open Go.RowKit Go.Proofs.Ytenmljkddhonmaa.MTbl Go.Proofs.YtenmljkddhonmaaW.PrintWords Go.Proofs.YtenmljkddhonmaaW.PrintLast Go.Proofs.YtenmljkddhonmaaW.PrintMore
set_option linter.unusedVariables false
set_option linter.unusedSimpArgs false
/-- Rows into a builder, as long as it goes. -/
def addAll : List S136 → Bool × St → Bool × St
 | [], q => q
 | r :: t, q => addAll t (if q.1 then (addB q.2 r.f0, if addB q.2 r.f0 then addT q.2 r.f0 r.f1 else q.2) else q)
/-- How many places there are, as a block's end says. -/
def cnt (l : List Int) : Nat := val256 ((l.drop (l.length - 4)).take 4)
/-- A block's rows. -/
def rowsOf (l : List Int) : Option (List S136):=rdR (l.length - 4 * (cnt l + 1)) (l.take (l.length - 4 * (cnt l + 1))) ⟨#[]⟩ []
/-- The same bytes? -/
def eqB (a b : List Int) : Bool := (strOfNums a).toList == (strOfNums b).toList
def readS (l : List Int) : Option (List S136) :=
 if l.length < 4 then none else if l.length < 4 * (cnt l + 1) then none else
  if (addAll ((rowsOf l).getD []) ((rowsOf l).isSome,St0)).1 = true∧eqB (addAll ((rowsOf l).getD []) ((rowsOf l).isSome,St0)).2.out l = true then some ((rowsOf l).getD []) else none
def Fit (r : S136) : Prop := r.f0.size ≤ 30000 ∧ r.f1.size ≤ 30000
theorem rdN_facts : ∀ (n : Nat) (b : List Int) (L : Nat) (acc : List Int) (xs r : List Int),b.length + L ≤ 30000 → rdN n b L acc = some (xs,r) → (∀ x ∈ acc,0 ≤ x) → r.length + n ≤ b.length∧(∀ x ∈ xs,0 ≤ x)∧xs.length = acc.length + n
 | 0, b, L, acc, xs, r, hl, h, ha => by
  simp only [rdN, Option.some.injEq, Prod.mk.injEq] at h
  obtain ⟨rfl, rfl⟩ := h
  exact ⟨Nat.le_refl _, ha, rfl⟩
 | n + 1, b, L, acc, xs, r, hl, h, ha => by
  rw [rdN] at h
  obtain ⟨⟨x, b2⟩, h1, h2⟩ := Option.bind_eq_some_iff.mp h
  obtain ⟨h3, h4, h5, _⟩ := rd1_facts h1
  obtain ⟨h6, h7, h8⟩ := rdN_facts n b2 L (acc ++ [x]) xs r (by omega) h2 (fun y hy => by
   rcases List.mem_append.1 hy with hy | hy
   ·exact ha y hy
   ·rw [List.mem_singleton.1 hy]; exact h3)
  rw [List.length_append, List.length_singleton] at h8
  exact ⟨by omega, h7, by omega⟩
theorem strOfNums_size' (l : List Int) : (strOfNums l).size = l.length := by simp [strOfNums, ByteArray.size]
theorem rdR_fit : ∀ (f : Nat) (b : List Int) (last : ByteArray) (acc l : List S136),b.length ≤ f → b.length + last.size ≤ 30000 → acc.length + b.length ≤ 30000 → (∀ r ∈ acc,Fit r) → rdR f b last acc = some l → l.length ≤ 30000∧∀ r ∈ l,Fit r
 | 0, b, last, acc, l, _, hl, ha, hf, h => by
  rw [rdR] at h
  obtain rfl := Option.some.inj h
  exact ⟨by omega, hf⟩
 | f + 1, b, last, acc, l, hbf, hl, ha, hf, h => by
  rw [rdR] at h
  split at h
  ·obtain rfl := Option.some.inj h
   exact ⟨by omega, hf⟩
  ·obtain ⟨⟨xs, r⟩, h1, h2⟩ := Option.bind_eq_some_iff.mp h
   obtain ⟨h3, h4, h5⟩ := rdN_facts 3 b last.size [] xs r hl h1 (fun x hx => absurd hx (by simp))
   simp only at h2
   split at h2
   ·cases h2
   ·split at h2
    ·cases h2
    ·split at h2
     ·cases h2
     ·rename_i c0 c1 c2
      have hg : ∀ i, 0 ≤ xs.getD i 0 := by
       intro i
       rw [List.getD_eq_getElem?_getD]
       by_cases hi : i < xs.length
       ·rw [List.getElem?_eq_getElem hi]; exact h4 _ (List.getElem_mem hi)
       ·rw [List.getElem?_eq_none (by omega)]; exact Int.le_refl _
      have g0 := hg 0
      have g1 := hg 1
      have g2 := hg 2
      generalize xs.getD 0 0 = x0 at *
      generalize xs.getD 1 0 = x1 at *
      generalize xs.getD 2 0 = x2 at *
      have hks : (last.extract 0 x0.toNat ++ strOfNums (r.take x1.toNat)).size = x0.toNat + x1.toNat := by
       rw [ByteArray.size_append, ByteArray.size_extract, strOfNums_size', List.length_take]; omega
      refine rdR_fit f _ _ _ l ?_ ?_ ?_ ?_ h2
      ·rw [List.length_drop]; omega
      ·rw [List.length_drop, hks]; omega
      ·rw [List.length_drop, List.length_append, List.length_singleton]; omega
      ·intro q hq
       rcases List.mem_append.1 hq with hq | hq
       ·exact hf q hq
       ·rw [List.mem_singleton.1 hq]
        refine ⟨by simp only; rw [hks]; omega, ?_⟩
        simp only
        rw [strOfNums_size', List.length_drop, List.length_take]; omega
theorem cnt_lt (l : List Int) (h : Bytes l) : cnt l < 4294967296 := by
 have := val256_lt ((l.drop (l.length - 4)).take 4) ((h.drop _).take _)
 have h2 : ((l.drop (l.length - 4)).take 4).length ≤ 4 := by rw [List.length_take]; omega
 exact Nat.lt_of_lt_of_le this (Nat.le_trans (Nat.pow_le_pow_right (by decide) h2) (by decide))
theorem rowsOf_fit {l : List Int} (hl : l.length ≤ 30000) : ((rowsOf l).getD []).length ≤ 30000∧∀ r ∈ (rowsOf l).getD [],Fit r:=by
 cases h : rowsOf l with
 | none => exact ⟨by simp, fun r hr => absurd hr (by simp)⟩
 | some q=>exact rdR_fit _ _ _ _ _ (by rw [List.length_take];omega) (by rw [List.length_take];show _ + 0 ≤ _;omega) (by rw [List.length_take];show 0 + _ ≤ _;omega) (fun r hr=>absurd hr (by simp)) h
end Go.Proofs.Ytenmljkddhonmaa.QTbl

namespace Go.Proofs.Ytenmljkddhonmaa.MTbl
open Go.RowKit Go.Proofs.Ytenmljkddhonmaa.QTbl Go.Proofs.YtenmljkddhonmaaW.PrintWords Go.Proofs.YtenmljkddhonmaaW.PrintLast Go.Proofs.YtenmljkddhonmaaW.PrintMore
set_option linter.unusedVariables false
set_option linter.unusedSimpArgs false
theorem info136 : (Try.prog.info? 136).map (fun i=>(i.zero,i.size,i.bytes)) = some (some (.agg #[.string ⟨#[]⟩,.string ⟨#[]⟩]),2,32):=by kernel_rfl
theorem C_dropA {w : World} {A : Option Addr} {c m : Nat} {xs : List Int} (h : Kd.C (Kd.int .u8) w A xs.length xs) (hm : m ≤ xs.length) (hc : xs.length ≤ c) : ∃ A',(∀ W : World,(Instr.slice 43 (.slice A xs.length c) (some (.int .i64 (m : Int))) none none).run Try.prog W = .ok (.slice A' (xs.drop m).length (c - m)) W)∧Kd.C (Kd.int .u8) w A' (xs.drop m).length (xs.drop m)∧(xs.drop m).length ≤ c - m:=by
 obtain ⟨i0, hi0, _, hsz, _⟩ := info_parts info5
 refine ⟨_, fun W => ?_, Kd.C_drop h hm hc, by rw [List.length_drop]; omega⟩
 have := cut_from (P := Try.prog) 43 5 .i64 Try.underlying43 hi0 1 hsz A xs.length c (m : Int) (by omega) (by omega) W
 rw [List.length_drop]
 exact this
theorem C_takeA {w : World} {A : Option Addr} {c m : Nat} {xs : List Int} (h : Kd.C (Kd.int .u8) w A xs.length xs) (hm : m ≤ xs.length) (hc : xs.length ≤ c) : (∀ W : World,(Instr.slice 43 (.slice A xs.length c) none (some (.int .u64 (m : Int))) none).run Try.prog W = .ok (.slice A m c) W)∧Kd.C (Kd.int .u8) w A m (xs.take m):=by
 obtain ⟨i0, hi0, _, hsz, _⟩ := info_parts info5
 refine ⟨cut_to (P := Try.prog) 43 5 .u64 Try.underlying43 hi0 A xs.length c (m : Int) (by omega) (by omega) hc, ?_⟩
 have := Kd.C_take h hm
 rwa [List.length_take, Nat.min_eq_left hm] at this
theorem C_midA {w : World} {A : Option Addr} {c a b : Nat} {xs : List Int} (h : Kd.C (Kd.int .u8) w A xs.length xs) (hm : a + b ≤ xs.length) (hc : xs.length ≤ c) : ∃ A',(∀ W : World,(Instr.slice 43 (.slice A xs.length c) (some (.int .u64 (a : Int))) (some (.int .u64 ((a : Int) + b))) none).run Try.prog W = .ok (.slice A' b (c - a)) W)∧Kd.C (Kd.int .u8) w A' b ((xs.take (a + b)).drop a):=by
 obtain ⟨i0, hi0, _, hsz, _⟩ := info_parts info5
 refine ⟨if c = a then A else A.map (·.add (a * 1)), fun W => ?_, ?_⟩
 ·have:=cut_mid (P:=Try.prog) 43 5 .u64 .u64 Try.underlying43 hi0 1 hsz A xs.length c (a : Int) ((a : Int) + b) (by omega) (by omega) (by omega) hc W
  rw [show (((a : Int) + b).toNat - (a : Int).toNat) = b by omega] at this
  exact this
 ·have := Kd.C_mid (lo := a) (hi := a + b) h (by omega) hm hc
  rwa [show ((xs.take (a + b)).drop a).length = b by rw [List.length_drop, List.length_take]; omega] at this
theorem C_dropB {w : World} {A : Option Addr} {c a b : Nat} {xs : List Int} (h : Kd.C (Kd.int .u8) w A xs.length xs) (hm : a + b ≤ xs.length) (hc : xs.length ≤ c) : ∃ A',(∀ W : World,(Instr.slice 43 (.slice A xs.length c) (some (.int .u64 ((a : Int) + b))) none none).run Try.prog W = .ok (.slice A' (xs.drop (a + b)).length (c - (a + b))) W)∧Kd.C (Kd.int .u8) w A' (xs.drop (a + b)).length (xs.drop (a + b))∧(xs.drop (a + b)).length ≤ c - (a + b):=by
 obtain ⟨i0, hi0, _, hsz, _⟩ := info_parts info5
 refine ⟨_, fun W => ?_, Kd.C_drop h hm hc, by rw [List.length_drop]; omega⟩
 have:=cut_from (P:=Try.prog) 43 5 .u64 Try.underlying43 hi0 1 hsz A xs.length c ((a : Int) + b) (by omega) (by omega) W
 rw [show ((a : Int) + b).toNat = a + b by omega] at this
 rw [List.length_drop]
 exact this
theorem strOfNums_size (l : List Int) : (strOfNums l).size = l.length := by simp [strOfNums, ByteArray.size]
theorem set_arr {xs : List Int} {j k1 : Nat} {x : Int} (h : xs.length = j) : (((xs ++ List.replicate (k1 + 1) 0).map (Value.int .u64)).toArray).setIfInBounds j (Value.int .u64 x) = (((xs ++ [x]) ++ List.replicate k1 0).map (Value.int .u64)).toArray:=by
 subst h
 rw [List.setIfInBounds_toArray]
 congr 1
 rw [List.map_append,List.map_append,List.map_append,List.replicate_succ,List.map_cons,List.set_append_right _ _ (by simp)]
 simp
def ReadPost (w w' : World) (e : Ending) (res : Option (List S136)) : Prop:=∃ v ok,e = .returned (.tuple #[v,.bool ok])∧Below w.heap.size w w'∧(match res with | none=>v = .slice none 0 0∧ok = false | some l=>ok = true∧Kd.R k136 136 w' w.heap.size (fun _=>True) v l)
set_option maxHeartbeats 8000000 in
set_option maxRecDepth 100000 in
theorem block_read.calls (A0 : Option Addr) (c0 : Nat) (l0 : List Int) (w : World) (hr0 : Kd.C (Kd.int .u8) w A0 l0.length l0) (hc0 : l0.length ≤ c0) (hby : Bytes l0) (hl : l0.length ≤ 30000) (res : Option (List S136)) (h : rdR l0.length l0 ⟨#[]⟩ [] = res) :
  Calls Try.prog 85 #[.slice A0 l0.length c0] w fun e w' => ReadPost w w' e res := by
 have HR := Aside0.mk hr0
 have HH := Aside0.mk h
 have HBY := Aside0.mk hby
 clear hr0 h hby
 go_enter Try.func85, Try.ntmps85
 go_wp2_with (fail)
 go_loopg [0,4,5] l0.length (fun kx s0 s4 s5 wr=>∃ (b : List Int) (A : Option Addr) (c : Nat) (last : ByteArray) (acc : List S136) (A4 : Option Addr) (c4 : Nat),s0 = .slice A b.length c∧s4 = .slice A4 acc.length c4∧s5 = .string last∧b.length ≤ kx∧b.length + last.size ≤ 30000∧acc.length + b.length ≤ 30000∧b.length ≤ c∧Aside0 (Bytes b)∧Aside0 (Kd.C (Kd.int .u8) w A b.length b)∧Aside0 (rdR kx b last acc = res)∧Aside0 (Kd.R k136 136 wr w.heap.size (fun _=>True) (.slice A4 acc.length c4) acc)∧Aside0 (Below w.heap.size w wr))
 case atStart=>exact ⟨l0,A0,c0,⟨#[]⟩,[],none,0,rfl,rfl,rfl,Nat.le_refl _,(by show l0.length + 0 ≤ 30000;omega),(by show 0 + l0.length ≤ 30000;omega),hc0,HBY,HR,HH,⟨Kd.R_nil _ _ _ _ _⟩,⟨Below.refl _ _⟩⟩
 case round =>
  (try clear HH)
  (try clear HR)
  (try clear HBY)
  obtain ⟨b, A, c, last, acc, A4, c4, rfl, rfl, rfl, hk, hbl, hal, hbc, HBY, HC, HX, HO, HB⟩ := hrel
  by_cases hb : b = []
  ·subst hb
   have hb0 : (0 < ([] : List Int).length) = False := eq_false (by simp)
   have hres : res = some acc := by
    have h_ := HX.out
    cases gk with
    | zero => exact h_.symm
    | succ kk => rw [rdR, if_pos rfl] at h_; exact h_.symm
   clear HX
   subst hres
   go_wp2_with (fail)
   go_ret2
   exact ⟨_, _, rfl, HB.out, rfl, HO.out⟩
  ·cases gk with
   | zero => exact absurd (List.eq_nil_of_length_eq_zero (by omega)) hb
   | succ kk =>
    have hb0 : (0 < b.length) = True := eq_true (by cases b with | nil => exact absurd rfl hb | cons _ _ => simp)
    rw [rdR, if_neg hb] at HX
    go_wp2_with (fail)
    obtain ⟨gN, hgN⟩ : ∃ gN, Aside0 (gN = wr.heap.size) := ⟨_, ⟨rfl⟩⟩
    have HN : Aside0 ((wr.alloc (.cells #[.int .u64 0,.int .u64 0,.int .u64 0] 148)).heap[gN]? = some (.cells ((([] : List Int) ++ List.replicate 3 0).map (Value.int .u64)).toArray 148 (0,0))):=⟨alloc_new_ _ _ _ hgN.out⟩
    have HO1 : Aside0 (Kd.R k136 136 (wr.alloc (.cells #[.int .u64 0,.int .u64 0,.int .u64 0] 148)) w.heap.size (fun _=>True) (.slice A4 acc.length c4) acc):=⟨Kd.R_alloc HO.out _⟩
    have HB1 : Aside0 (Below w.heap.size w (wr.alloc (.cells #[.int .u64 0,.int .u64 0,.int .u64 0] 148))):=⟨below_alloc HB.out _⟩
    have hgw : w.heap.size ≤ gN := by rw [hgN.out]; exact HB.out.size
    rw [← hgN.out]
    clear hb0 hgN HO HB
    go_loopg [0,13] 3 (fun kx s0 s13 wq=>∃ (j : Nat) (xs bj : List Int) (Aj : Option Addr) (cj : Nat),s0 = .slice Aj bj.length cj∧s13 = .int .i64 j∧j + kx = 3∧xs.length = j∧bj.length ≤ cj∧bj.length ≤ b.length∧(j = 0 ∨ bj.length < b.length)∧(∀ x ∈ xs,0 ≤ x∧x ≤ 30000)∧Aside0 (rdN kx bj last.size xs = rdN 3 b last.size [])∧Aside0 (Bytes bj)∧Aside0 (Kd.C (Kd.int .u8) w Aj bj.length bj)∧Aside0 (wq.heap[gN]? = some (.cells ((xs ++ List.replicate kx 0).map (Value.int .u64)).toArray 148 (0,0)))∧Aside0 (Kd.R k136 136 wq w.heap.size (fun _=>True) (.slice A4 acc.length c4) acc)∧Aside0 (Below w.heap.size w wq))
    case atStart=>exact ⟨0,[],b,A,c,rfl,rfl,rfl,rfl,hbc,Nat.le_refl _,.inl rfl,(fun x hx=>absurd hx (by simp)),⟨rfl⟩,HBY,HC,HN,HO1,HB1⟩
    case round =>
     clear HBY HC HN HO1 HB1
     obtain ⟨j, xs, bj, Aj, cj, rfl, rfl, hjk, hxl, hbcj, hbjl, hj0, hxs, HRN, HBY, HC, HN, HO, HB⟩ := hrel
     cases gk with
     | zero =>
      have hjt : ((j : Int) < 3) = False := eq_false (by omega)
      obtain ⟨x0, x1, x2, rfl⟩ : ∃ x0 x1 x2, xs = [x0, x1, x2] := by
       match xs, hxl with
       | [a, b, c], _ => exact ⟨a, b, c, rfl⟩
       | [], h => simp at h; omega
       | [_], h => simp at h; omega
       | [_, _], h => simp at h; omega
       | _ :: _ :: _ :: _ :: _, h => simp at h; omega
      have hR := HRN.out
      rw [rdN] at hR
      have hX := HX.out
      rw [← hR] at hX
      simp only [Option.bind_some, List.getD_cons_zero, List.getD_cons_succ] at hX
      have HX := Aside0.mk hX
      clear hR hX HRN
      obtain ⟨hx0, hx0'⟩ := hxs x0 (by simp)
      obtain ⟨hx1, hx1'⟩ := hxs x1 (by simp)
      obtain ⟨hx2, hx2'⟩ := hxs x2 (by simp)
      have hn0 : wr.cell? ⟨gN, 0, none⟩ = some (.int .u64 x0) := (blk_cell HN.out 0).trans rfl
      have hn1 : wr.cell? ⟨gN, 1, none⟩ = some (.int .u64 x1) := (blk_cell HN.out 1).trans rfl
      have hn2 : wr.cell? ⟨gN, 2, none⟩ = some (.int .u64 x2) := (blk_cell HN.out 2).trans rfl
      have hwl : IntKind.u64.wrap (last.size : Int) = last.size := u64_id (by omega) (by omega)
      have hwb : IntKind.u64.wrap (bj.length : Int) = bj.length := u64_id (by omega) (by omega)
      clear hxs hxl
      by_cases c0 : x0 > last.size
      ·have c0b : ((last.size : Int) < x0) = True := eq_true c0
       have hres : res = none := by have h_ := HX.out; rw [if_pos c0] at h_; exact h_.symm
       subst hres
       clear HX
       go_wp2_with (fail)
       go_ret2
       exact ⟨_, _, rfl, HB.out, rfl, rfl⟩
      ·have c0b : ((last.size : Int) < x0) = False := eq_false c0
       by_cases c1 : x1 > bj.length
       ·have c1b : ((bj.length : Int) < x1) = True := eq_true c1
        have hres : res = none := by have h_ := HX.out; rw [if_neg c0, if_pos c1] at h_; exact h_.symm
        subst hres
        clear HX
        go_wp2_with (fail)
        go_ret2
        exact ⟨_, _, rfl, HB.out, rfl, rfl⟩
       ·have c1b : ((bj.length : Int) < x1) = False := eq_false c1
        have hws : IntKind.u64.wrap ((bj.length : Int) - x1) = (bj.length : Int) - x1:=u64_id (by omega) (by omega)
        by_cases c2 : x2 > (bj.length : Int) - x1
        ·have c2b : ((bj.length : Int) - x1 < x2) = True := eq_true c2
         have hres : res = none:=by have h_:=HX.out;rw [if_neg c0,if_neg c1,if_pos c2] at h_;exact h_.symm
         subst hres
         clear HX
         go_wp2_with (fail)
         go_ret2
         exact ⟨_, _, rfl, HB.out, rfl, rfl⟩
        ·have c2b : ((bj.length : Int) - x1 < x2) = False := eq_false c2
         obtain ⟨n0, rfl⟩ := Int.eq_ofNat_of_zero_le hx0
         obtain ⟨n1, rfl⟩ := Int.eq_ofNat_of_zero_le hx1
         obtain ⟨n2, rfl⟩ := Int.eq_ofNat_of_zero_le hx2
         have HX2 : Aside0 _:=⟨by have h_:=HX.out;rw [if_neg c0,if_neg c1,if_neg c2] at h_;simp only [Int.toNat_natCast] at h_;exact h_⟩
         clear HX
         have hCr := Kd.C_below HC.out HB.out
         have hm12 : n1 + n2 ≤ bj.length := by omega
         obtain ⟨hsl1, hC1⟩ := C_takeA hCr (show n1 ≤ bj.length by omega) hbcj
         obtain ⟨A2, hsl2, hC2⟩ := C_midA hCr hm12 hbcj
         obtain ⟨A3, hsl3, hC3, hle3⟩ := C_dropB HC.out hm12 hbcj
         obtain ⟨k0, hk0⟩ : ∃ k0, Aside0 (k0 = last.extract 0 n0) := ⟨_, ⟨rfl⟩⟩
         obtain ⟨k1, hk1⟩ : ∃ k1, Aside0 (k1 = strOfNums (bj.take n1)) := ⟨_, ⟨rfl⟩⟩
         obtain ⟨v1, hv1⟩ : ∃ v1, Aside0 (v1 = strOfNums ((bj.take (n1 + n2)).drop n1)) := ⟨_, ⟨rfl⟩⟩
         have hcv0 : ∀ W,(Instr.slice 9 (.string last) none (some (.int .u64 (n0 : Int))) none).run Try.prog W = .ok (.string k0) W:=fun W=>by rw [hk0.out];simpa using run_slice_string_h W 9 last Try.underlying9 .u64 (n0 : Int) (by omega) (by omega)
         have hcv1 : (convert 43 9 (.slice Aj n1 cj)).run Try.prog wr.drew = .ok (.string k1) wr.drew:=by rw [hk1.out];exact Kd.C_string Try.underlying43 Try.underlying5 Try.underlying9 (Kd.C_drew hC1)
         have hcv2 : (convert 43 9 (.slice A2 n2 (cj - n1))).run Try.prog wr.drew = .ok (.string v1) wr.drew:=by rw [hv1.out];exact Kd.C_string Try.underlying43 Try.underlying5 Try.underlying9 (Kd.C_drew hC2)
         have hw12 : IntKind.u64.wrap ((n1 : Int) + n2) = (n1 : Int) + n2 := u64_id (by omega) (by omega)
         have hks : k0.size + k1.size ≤ 60000:=by rw [hk0.out,hk1.out,ByteArray.size_extract,strOfNums_size,List.length_take];omega
         have hks2 : Aside0 (k0.size = n0∧k1.size = n1):=⟨by rw [hk0.out,hk1.out,ByteArray.size_extract,strOfNums_size,List.length_take];omega⟩
         have hsum : (9223372036854775807 < k0.size + k1.size) = False := eq_false (by omega)
         rw [← hk0.out, ← hk1.out, ← hv1.out] at HX2
         clear hks
         have HC3 := Aside0.mk hC3
         clear hCr hC1 hC2 hC3
         go_wp2_with (fail)
         go_region
         go_wp2_with (first | ((with_reducible refine gate_builtin (b:=.append) (xs:=#[.tmp 75,.tmp 88]) rfl ?_);at_builtin;refine Kd.R_append k136 (w0:=w) (W:=wr.drew) w.heap.size rfl (.tmp 75) (.tmp 88) 132 136 (.agg #[.string ⟨#[]⟩,.string ⟨#[]⟩]) 32 rfl Try.underlying132 info136 rfl (by decide) (by omega) (.slice A4 acc.length c4) acc ⟨k0 ++ k1,v1⟩ [.string (k0 ++ k1),.string v1] (fun _=>True) (fun _=>False) rfl rfl ?aP (fun k hk=>hk.elim) ?aF ?aO ?aB ?aS ?aL ?_;(case aP=>exact k136_mkM _ _ _ _);(case aF=>exact (fun _ _=>trivial));(case aO=>exact Kd.R_drew HO.out);(case aB=>exact below_drew1 HB.out);(case aS=>exact below_size (below_drew1 HB.out));(case aL=>omega);intro v3 w3 ho hb3 hg3 hat3;obtain ⟨A5,c5,e5⟩:=Kd.R_slice ho;subst e5;have HO3:=Aside0.mk ho;have HB3:=Aside0.mk hb3;have HN3:=Aside0.mk ((hg3.block gN (blk_lt HN.out) (Kd.R_ne (Kd.R_drew HO.out) (blk_drew HN.out) (by decide))).trans (blk_drew HN.out));have hn13 : w3.cell? ⟨gN,1,none⟩ = some (.int .u64 n1):=(blk_cell HN3.out 1).trans rfl;have hn23 : w3.cell? ⟨gN,2,none⟩ = some (.int .u64 n2):=(blk_cell HN3.out 2).trans rfl;clear ho hb3 hg3 hat3))
         go_roundg kk
         case measure => omega
         case rel=>exact ⟨bj.drop (n1 + n2),A3,cj - (n1 + n2),k0 ++ k1,acc ++ [⟨k0 ++ k1,v1⟩],A5,c5,by rw [List.length_drop],by rw [List.length_append,List.length_singleton],rfl,by rw [List.length_drop];omega,by rw [List.length_drop,ByteArray.size_append];have:=hks2.out;omega,by rw [List.length_drop,List.length_append,List.length_singleton];omega,hle3,⟨HBY.out.drop _⟩,HC3,HX2,HO3,HB3⟩
     | succ k1 =>
      have hjt : ((j : Int) < 3) = True := eq_true (by omega)
      obtain ⟨K, hK⟩ := Get_ev HBY.out
      obtain ⟨x, n, hg⟩ : ∃ x n, get bj = (x, n) := ⟨_, _, rfl⟩
      have hgf := get_facts bj
      rw [hg] at hgf
      obtain ⟨hx0, hn0, hn1⟩ := hgf
      simp only at hx0 hn0 hn1
      have HK := Aside0.mk (hK K (Nat.le_refl _))
      rw [hg] at HK
      have Hg := Aside0.mk hg
      clear hK hg
      go_wp2_with (fail)
      refine (varint_Get.calls K Aj cj bj x n _ (Kd.C_below HC.out HB.out) hbcj HK.out).mono ?_
      rintro e w2 ⟨rfl, hb2⟩
      have HB2 := Aside0.mk (below_step HB.out hb2)
      have HO2 := Aside0.mk (Kd.R_below HO.out hb2)
      have HN2 := Aside0.mk ((hb2.block gN (blk_lt HN.out)).trans HN.out)
      clear hb2 HB HO HN HK
      by_cases c0 : n = 0
      ·subst c0
       have hres : res = none := by
        have h_ := HX.out
        rw [← HRN.out, rdN] at h_
        simp only [rd1, Hg.out, if_pos, Option.bind_none] at h_
        exact h_.symm
       subst hres
       clear HX HRN
       go_wp2_with (fail)
       go_ret2
       exact ⟨_, _, rfl, HB2.out, rfl, rfl⟩
      ·have c0b : (n == 0) = false := beq_eq_false_iff_ne.mpr c0
       have hw1 : IntKind.i64.wrap ((bj.length : Int) + last.size) = (bj.length : Int) + last.size:=(i64_w _).trans (by unfold wrap64;omega)
       have hw2 : IntKind.u64.wrap ((bj.length : Int) + last.size) = (bj.length : Int) + last.size:=u64_id (by omega) (by omega)
       by_cases c1 : x > (bj.length : Int) + last.size
       ·have c1b : ((bj.length : Int) + last.size < x) = True := eq_true c1
        have hres : res = none := by
         have h_ := HX.out
         rw [← HRN.out, rdN] at h_
         simp only [rd1, Hg.out, if_neg c0, if_pos c1, Option.bind_none] at h_
         exact h_.symm
        subst hres
        clear HX HRN
        go_wp2_with (fail)
        go_ret2
        exact ⟨_, _, rfl, HB2.out, rfl, rfl⟩
       ·have c1b : ((bj.length : Int) + last.size < x) = False := eq_false c1
        obtain ⟨m, rfl⟩ := Int.eq_ofNat_of_zero_le hn0
        have hm : m ≤ bj.length := by omega
        have hm0 : 0 < m := by omega
        have HRN2 : Aside0 (rdN k1 (bj.drop m) last.size (xs ++ [x]) = rdN 3 b last.size []) := ⟨by
         have h_ := HRN.out
         rw [rdN] at h_
         simp only [rd1, Hg.out, if_neg c0, if_neg c1, Option.bind_some, Int.toNat_natCast] at h_
         exact h_⟩
        obtain ⟨A', hsl, hC', hle'⟩ := C_dropA HC.out hm hbcj
        have HC' := Aside0.mk hC'
        have hj0 : ((0 : Int) ≤ (j : Int)) = True := eq_true (by omega)
        have hj1 : (j < 3) = True := eq_true (by omega)
        obtain ⟨ov, hov⟩ : ∃ ov, w2.cell? ⟨gN, j, none⟩ = some ov := by
         have h_ := blk_cell HN2.out j
         rw [List.getElem?_toArray,List.getElem?_map,List.getElem?_append_right (by omega),hxl,Nat.sub_self] at h_
         exact ⟨_, h_⟩
        have hfz := blk_frozen HN2.out j
        clear hC' HC HRN
        go_wp2_with (fail)
        go_region
        have hwj : IntKind.i64.wrap ((j : Int) + 1) = ((j + 1 : Nat) : Int):=(i64_w _).trans (by unfold wrap64;omega)
        have HB3 := Aside0.mk (below_set (j := j) (v := Value.int .u64 x) (below_drew1 HB2.out) hgw)
        have HN3 := Aside0.mk (blk_set (blk_drew HN2.out) j (Value.int .u64 x))
        have HO3 := Aside0.mk (Kd.R_set (Kd.R_drew HO2.out) (blk_drew HN2.out) (by decide) j (Value.int .u64 x))
        clear HB2 HN2 HO2 hov hfz HX
        go_wp2_with (fail)
        go_roundg k1
        case measure => omega
        case rel=>exact ⟨j + 1,xs ++ [x],bj.drop m,A',cj - m,by rw [List.length_drop],rfl,by omega,by simp [hxl],hle',by rw [List.length_drop];omega,.inr (by rw [List.length_drop];omega),(fun y hy=>by rcases List.mem_append.1 hy with hy | hy;exact hxs y hy;rw [List.mem_singleton.1 hy];omega),HRN2,⟨HBY.out.drop m⟩,HC',⟨by have h_:=HN3.out;rw [set_arr hxl] at h_;exact h_⟩,HO3,HB3⟩
end Go.Proofs.Ytenmljkddhonmaa.MTbl

namespace Go.Proofs.Ytenmljkddhonmaa.MTbl
open Go.RowKit Go.Proofs.Ytenmljkddhonmaa.QTbl Go.Proofs.YtenmljkddhonmaaW.PrintWords Go.Proofs.YtenmljkddhonmaaW.PrintLast Go.Proofs.YtenmljkddhonmaaW.PrintMore
set_option linter.unusedVariables false
set_option linter.unusedSimpArgs false
theorem addT_bounds (s : St) (k v : ByteArray) (hk : k.size < 1000000) (hv : v.size < 1000000) : (addT s k v).b.length ≤ s.b.length + 30 + k.size + v.size∧(addT s k v).p.length ≤ s.p.length + 4∧(addT s k v).rows = s.rows + 1∧(addT s k v).last = k:=by
 have hsh : s.sh k ≤ k.size := by
  unfold St.sh
  split
  ·omega
  ·have := (cpl_le (bytesOf s.last) (bytesOf k)).2
   rwa [bytesOf_length] at this
 have h0 := put_length10 (n := s.sh k) (by omega)
 have h1 := put_length10 (n := k.size - s.sh k) (by omega)
 have h2 := put_length10 (n := v.size) (by omega)
 refine ⟨?_, ?_, rfl, rfl⟩
 ·simp only [addT, List.length_append, List.length_drop, bytesOf_length]
  omega
 ·simp only [addT]
  split
  ·rw [List.length_append, fix_length]; omega
  ·omega
theorem R_oth {α : Type} {d : Kd α} {e base : Nat} {ok : Nat → Prop} {w w1 : World} {g : Nat} {v : Value} {l : List α} {cs : Array Value} (h : d.R e w base ok v l) (ho : Oth w w1 g) (hb : w.heap[g]? = some (.cells cs 120 (0,0))) (ht : ∀ q,q ∈ e :: d.E → q ≠ 5∧q ≠ 120) : d.R e w1 base ok v l:=by
 refine Kd.R_mono (Kd.R_move (Kd.R_bound h) (fun k hk => ?_)) (fun k hk => hk.1)
 obtain ⟨_, _, _, q, hq, cells, hc⟩ := hk
 refine (ho.2 k cells q ?_ (ht q hq).1 hc).trans hc.symm
 rintro rfl
 rw [hb] at hc
 injection hc with hc
 injection hc with _ hc2
 exact (ht q hq).2 hc2.symm
theorem BldS.blk {w0 w : World} {g : Nat} {s : St} (h : BldS w0 w g s) : ∃ cs,w.heap[g]? = some (.cells cs 120 (0,0)):=by
 obtain ⟨_, _, _, _, h, _⟩ := h
 exact ⟨_, h⟩
theorem BldS.below {w0 w w' : World} {g : Nat} {s : St} (h : BldS w0 w g s) (hb : Below w.heap.size w w') : BldS w0 w' g s:=BldI.below h hb
theorem BldS.base {w0 w : World} {g : Nat} {s : St} (h : BldS w0 w g s) : Below w0.heap.size w0 w := h.2.1
def RdPost (w w' : World) (e : Ending) (res : Option (List S136)) : Prop:=∃ v er,e = .returned (.tuple #[v,.int .i64 er])∧Below w.heap.size w w'∧(match res with | none=>v = .slice none 0 0∧er = 8 | some l=>er = 0∧Kd.R k136 136 w' w.heap.size (fun _=>True) v l)
theorem C_takeI {w : World} {A : Option Addr} {c m : Nat} {xs : List Int} (h : Kd.C (Kd.int .u8) w A xs.length xs) (hm : m ≤ xs.length) (hc : xs.length ≤ c) : (∀ W : World,(Instr.slice 43 (.slice A xs.length c) none (some (.int .i64 (m : Int))) none).run Try.prog W = .ok (.slice A m c) W)∧Kd.C (Kd.int .u8) w A m (xs.take m):=by
 obtain ⟨i0, hi0, _, hsz, _⟩ := info_parts info5
 refine ⟨cut_to (P := Try.prog) 43 5 .i64 Try.underlying43 hi0 A xs.length c (m : Int) (by omega) (by omega) hc, ?_⟩
 have := Kd.C_take h hm
 rwa [List.length_take, Nat.min_eq_left hm] at this
theorem i64id {n : Int} (h : -9223372036854775808 ≤ n∧n ≤ 9223372036854775807) : IntKind.i64.wrap n = n:=(i64_w _).trans (by unfold wrap64;omega)
set_option maxHeartbeats 8000000 in
set_option maxRecDepth 100000 in
theorem block_Read.calls (A0 : Option Addr) (c0 : Nat) (l : List Int) (w : World) (hr0 : Kd.C (Kd.int .u8) w A0 l.length l) (hc0 : l.length ≤ c0) (hby : Bytes l) (hl : l.length ≤ 30000) (res : Option (List S136)) (h : readS l = res) :
  Calls Try.prog 78 #[.slice A0 l.length c0] w fun e w' => RdPost w w' e res := by
 have HR := Aside0.mk hr0
 have HBY := Aside0.mk hby
 by_cases h4 : l.length < 4
 ·have h4b : ((l.length : Int) < 4) = True := eq_true (by omega)
  have h4c : (l.length < 4) = True := eq_true h4
  rw [readS, if_pos h4] at h
  subst h
  clear h4
  go_enter Try.func78, Try.ntmps78
  go_wp2_with (fail)
  go_ret2
  exact ⟨_, _, rfl, Below.refl _ _, rfl, rfl⟩
 ·have h4b : ((l.length : Int) < 4) = False := eq_false (by omega)
  have h4c : (l.length < 4) = False := eq_false h4
  rw [readS, if_neg h4] at h
  have HH := Aside0.mk h
  have hn4 := cnt_lt l hby
  obtain ⟨n, hn⟩ : ∃ n, Aside0 (n = cnt l) := ⟨_, ⟨rfl⟩⟩
  rw [← hn.out] at hn4
  have hw4 : IntKind.i64.wrap ((l.length : Int) - 4) = ((l.length - 4 : Nat) : Int):=(i64id (by omega)).trans (by omega)
  obtain ⟨A1, hsl1, hC1, hle1⟩ := C_dropA hr0 (show l.length - 4 ≤ l.length by omega) hc0
  have HC1 := Aside0.mk hC1
  obtain ⟨K, hK⟩ := Get32_ev (l := l.drop (l.length - 4)) (hby.drop _) (by rw [List.length_drop]; omega)
  have HK := Aside0.mk (hK K (Nat.le_refl _))
  have hcnt : (val256 ((l.drop (l.length - 4)).take 4) : Int) = (n : Int) := by rw [hn.out]; rfl
  rw [hcnt] at HK
  have hw1 : IntKind.i64.wrap (n : Int) = n := i64id (by omega)
  have hw2 : IntKind.i64.wrap ((n : Int) + 1) = (n : Int) + 1 := i64id (by omega)
  have hw3 : IntKind.i64.wrap (4 * ((n : Int) + 1)) = 4 * ((n : Int) + 1) := i64id (by omega)
  have hw5 : IntKind.i64.wrap ((l.length : Int) - 4 * ((n : Int) + 1)) = (l.length : Int) - 4 * ((n : Int) + 1):=i64id (by omega)
  clear hr0 hby h hC1 hK hcnt h4
  go_enter Try.func78, Try.ntmps78
  go_wp2_with (fail)
  have hq := varint_Get32.calls K A1 _ _ n w HC1.out hle1 HK.out
  rw [List.length_drop] at hq
  refine hq.mono ?_
  rintro e w1 ⟨rfl, hb1⟩
  have HB1 : Aside0 (Below w.heap.size w w1):=⟨by obtain ⟨m1,e1⟩:=hb1.out;rw [e1];exact pw_below_drewN (Below.refl _ _) m1⟩
  clear hq hb1 HC1 hsl1 hle1 HK
  by_cases he : l.length < 4 * (n + 1)
  ·have heb : ((l.length : Int) - 4 * ((n : Int) + 1) < 0) = True := eq_true (by omega)
   have hres : res = none := by have h_ := HH.out; rw [← hn.out, if_pos he] at h_; exact h_.symm
   subst hres
   clear HH
   go_wp2_with (fail)
   go_ret2
   exact ⟨_, _, rfl, HB1.out, rfl, rfl⟩
  ·have heb : ((l.length : Int) - 4 * ((n : Int) + 1) < 0) = False := eq_false (by omega)
   obtain ⟨m, hm⟩ : ∃ m, Aside0 (m = l.length - 4 * (n + 1)) := ⟨_, ⟨rfl⟩⟩
   have hme : (l.length : Int) - 4 * ((n : Int) + 1) = (m : Int) := by rw [hm.out]; omega
   rw [hme] at hw5 heb
   have HH2 : Aside0 ((if (addAll ((rowsOf l).getD []) ((rowsOf l).isSome,St0)).1 = true∧eqB (addAll ((rowsOf l).getD []) ((rowsOf l).isSome,St0)).2.out l = true then some ((rowsOf l).getD []) else none) = res):=⟨by have h_:=HH.out;rw [← hn.out,if_neg he] at h_;exact h_⟩
   have hml : m ≤ l.length := by rw [hm.out]; omega
   obtain ⟨hsl2, hC2⟩ := C_takeI HR.out hml hc0
   have hC2l : (l.take m).length = m := by rw [List.length_take]; omega
   have HRO : Aside0 (rdR (l.take m).length (l.take m) ⟨#[]⟩ [] = rowsOf l):=⟨by rw [hC2l,rowsOf,← hn.out,← hm.out]⟩
   have HC2 := Aside0.mk hC2
   clear HH hC2 hn4
   go_wp2_with (fail)
   have hq:=block_read.calls A0 c0 (l.take m) w1 (by rw [hC2l];exact Kd.C_below HC2.out HB1.out) (by omega) (HBY.out.take m) (by omega) _ HRO.out
   rw [hC2l] at hq
   refine hq.mono ?_
   rintro e w2 ⟨v, ok, rfl, hb2, hv⟩
   have hv2 : ∃ A4 c4,v = .slice A4 ((rowsOf l).getD []).length c4∧ok = (rowsOf l).isSome∧Kd.R k136 136 w2 w.heap.size (fun _=>True) v ((rowsOf l).getD []):=by
    cases hro : rowsOf l with
    | none =>
     rw [hro] at hv
     obtain ⟨rfl, rfl⟩ := hv
     exact ⟨none, 0, rfl, rfl, Kd.R_nil _ _ _ _ _⟩
    | some L =>
     rw [hro] at hv
     obtain ⟨rfl, hR⟩ := hv
     obtain ⟨A4, c4, e4⟩ := Kd.R_slice hR
     exact ⟨A4, c4, e4, rfl, Kd.R_lower hR HB1.out.size⟩
   obtain ⟨A4, c4, rfl, rfl, hRL⟩ := hv2
   obtain ⟨hfl, hfit⟩ := rowsOf_fit hl
   have HB2 := Aside0.mk (below_step HB1.out hb2)
   have HRL := Aside0.mk hRL
   clear hv hRL hq hb2 HC2 HRO HB1
   generalize (rowsOf l).isSome = ok0 at HH2 ⊢
   generalize (rowsOf l).getD [] = L at *
   go_wp2_with (fail)
   refine (block_NewS.calls w w2 HB2.out).mono ?_
   rintro e w3 ⟨g, rfl, hI, hb3, hg⟩
   have HI := Aside0.mk hI
   have HRL3 := Aside0.mk (Kd.R_below HRL.out hb3)
   clear HB2 HRL hI hb3 hg
   obtain ⟨fin, hfin⟩ : ∃ fin, Aside0 (addAll L (ok0, St0) = fin) := ⟨_, ⟨rfl⟩⟩
   rw [hfin.out] at HH2
   go_wp2_with (fail)
   go_loopg [7,39] L.length (fun kx s7 s39 wr=>∃ (i : Nat) (okb : Bool) (s : St),s7 = .bool okb∧s39 = .int .i64 i∧i + kx = L.length∧Aside0 (addAll (L.drop i) (okb,s) = fin)∧s.rows ≤ i∧s.b.length ≤ 60030 * i∧s.p.length ≤ 4 * i∧s.last.size ≤ 30000∧Aside0 (BldS w wr g s)∧Aside0 (Kd.R k136 136 wr w.heap.size (fun _=>True) (.slice A4 L.length c4) L))
   case atStart=>exact ⟨0,ok0,St0,rfl,rfl,by omega,hfin,Nat.le_refl _,Nat.le_refl _,Nat.le_refl _,by decide,HI,HRL3⟩
   case round =>
    clear HI HRL3 hfin
    obtain ⟨i, okb, s, rfl, rfl, hi, HA, hs1, hs2, hs3, hs4, HI, HRL⟩ := hrel
    cases gk with
    | zero =>
     have hit : ((i : Int) < (L.length : Int)) = False := eq_false (by omega)
     have hfe : fin = (okb, s) := by
      have h_ := HA.out
      rw [List.drop_eq_nil_of_le (by omega), addAll] at h_
      exact h_.symm
     subst hfe
     clear HA
     simp only at HH2
     cases okb with
     | false =>
      have hres : res = none := by have h_ := HH2.out; rw [if_neg (by simp)] at h_; exact h_.symm
      subst hres
      go_wp2_with (fail)
      go_ret2
      exact ⟨_, _, rfl, HI.out.base, rfl, rfl⟩
     | true =>
      go_wp2_with (fail)
      have hout : s.b.length < 4294967296 ∧ s.p.length < 4294967296 := by omega
      refine (block_BytesS.calls w wr g s HI.out hout.1 hout.2).mono ?_
      rintro e w4 ⟨v, rfl, hv, hI4, hb4⟩
      obtain ⟨A5, c5, e5⟩ := Kd.R_slice hv
      subst e5
      have HI4 := Aside0.mk hI4
      have HRL4 := Aside0.mk (Kd.R_below HRL.out hb4)
      have HV := Aside0.mk hv
      clear HI HRL hv hI4 hb4
      obtain ⟨rb, hrb⟩ : ∃ rb, Aside0 (rb = eqB s.out l) := ⟨_, ⟨rfl⟩⟩
      rw [← hrb.out] at HH2
      go_wp2_with (fail)
      refine (bytes_Equal.calls A5 c5 s.out A0 c0 l rb w4 (Kd.R_reads' HV.out).2.2 (Kd.R_reads' HV.out).2.1 (Kd.C_below HR.out HI4.out.base) hc0 (by rw [hrb.out];rfl)).mono ?_
      rintro e w5 ⟨rfl, hd5⟩
      have hb5 : Below w4.heap.size w4 w5:=by obtain ⟨m1,e1⟩:=hd5.out;rw [e1];exact pw_below_drewN (Below.refl _ _) m1
      have HB5 := Aside0.mk (below_step HI4.out.base hb5)
      have HRL5 := Aside0.mk (Kd.R_below HRL4.out hb5)
      clear hd5 hb5 HI4 HRL4 HV hrb
      cases rb with
      | false =>
       have hres : res = none := by have h_ := HH2.out; rw [if_neg (by simp)] at h_; exact h_.symm
       subst hres
       go_wp2_with (fail)
       go_ret2
       exact ⟨_, _, rfl, HB5.out, rfl, rfl⟩
      | true =>
       have hres : res = some L := by have h_ := HH2.out; rw [if_pos ⟨trivial, rfl⟩] at h_; exact h_.symm
       subst hres
       go_wp2_with (fail)
       go_ret2
       exact ⟨_, _, rfl, HB5.out, rfl, HRL5.out⟩
    | succ kk =>
     have hit : ((i : Int) < (L.length : Int)) = True := eq_true (by omega)
     have hi0 : ((0 : Int) ≤ (i : Int)) = True := eq_true (by omega)
     have hi1 : (i < L.length) = True := eq_true (by omega)
     obtain ⟨ad, rfl, g0, g1⟩ := at_T136 (Kd.R_reads' HRL.out).2.2 (i : Int) (by omega) (by omega)
     rw [Int.toNat_natCast] at g0
     simp only [Int.toNat_natCast] at g1
     have hw64 : IntKind.i64.wrap ((i : Int) + 1) = ((i + 1 : Nat) : Int) := i64id (by omega)
     have hdi : L.drop i = rd_T136 L (i : Int) :: L.drop (i + 1) := by
      unfold rd_T136
      rw [Int.toNat_natCast,List.drop_eq_getElem_cons (by omega),List.getD_eq_getElem?_getD,List.getElem?_eq_getElem (by omega)];rfl
     have hfi : Fit (rd_T136 L (i : Int)) := hfit _ (List.mem_of_mem_drop (hdi ▸ List.mem_cons_self))
     have h_ := HA.out
     rw [hdi, addAll] at h_
     simp only at h_
     clear hdi HA
     generalize rd_T136 L (i : Int) = y at h_ g0 g1 hfi
     have HA := Aside0.mk h_
     clear h_
     cases okb with
     | false =>
      go_wp2_with (fail)
      go_roundg kk
      case measure => omega
      case rel=>exact ⟨i + 1,false,s,rfl,rfl,by omega,HA,by omega,by omega,by omega,hs4,⟨HI.out.below (below_alloc (Below.refl _ _) _)⟩,⟨Kd.R_alloc HRL.out _⟩⟩
     | true =>
      go_wp2_with (fail)
      have HI2 : Aside0 (BldS w (wr.alloc (.cells #[.string y.f0,.string y.f1] 136)) g s):=⟨HI.out.below (below_alloc (Below.refl _ _) _)⟩
      have HRL2 := Aside0.mk (Kd.R_alloc HRL.out (.cells #[.string y.f0, .string y.f1] 136))
      have hfy := hfi.1
      have hfy2 := hfi.2
      have hbd := addT_bounds s y.f0 y.f1 (by omega) (by omega)
      refine (block_Add.calls w _ g s y.f0 y.f1 HI2.out (by omega) (by omega) (by omega) (by omega) (by omega) (by omega)).mono ?_
      rintro e w4 ⟨rfl, hI4, hO4⟩
      obtain ⟨cs, hcs⟩ := HI2.out.blk
      have HRL4 := Aside0.mk (R_oth HRL2.out hO4 hcs (by decide))
      have HI4 := Aside0.mk hI4
      obtain ⟨s2, hs2e⟩ : ∃ s2, Aside0 (s2 = if addB s y.f0 then addT s y.f0 y.f1 else s) := ⟨_, ⟨rfl⟩⟩
      have hs2b : s2.rows ≤ s.rows + 1∧s2.b.length ≤ s.b.length + 60030∧s2.p.length ≤ s.p.length + 4∧s2.last.size ≤ 30000:=by
       rw [hs2e.out]
       split
       ·rw [hbd.2.2.1, hbd.2.2.2]; omega
       ·omega
      rw [← hs2e.out] at HI4
      have HA2 : Aside0 (addAll (L.drop (i + 1)) (addB s y.f0, s2) = fin) := ⟨by rw [hs2e.out]; exact HA.out⟩
      generalize addB s y.f0 = okn at HA2 ⊢
      clear hI4 hO4 hcs HI HRL HI2 HRL2 HA hs2e hbd g0 g1
      go_wp2_with (fail)
      go_roundg kk
      case measure => omega
      case rel=>exact ⟨i + 1,okn,s2,rfl,rfl,by omega,HA2,by omega,by omega,by omega,hs2b.2.2.2,HI4,HRL4⟩
end Go.Proofs.Ytenmljkddhonmaa.MTbl

namespace Go.Proofs.Ytenmljkddhonmaa.MTbl
open Go.RowKit Go.Proofs.Ytenmljkddhonmaa.QTbl Go.Proofs.YtenmljkddhonmaaW.PrintWords Go.Proofs.YtenmljkddhonmaaW.PrintLast Go.Proofs.YtenmljkddhonmaaW.PrintMore
set_option linter.unusedVariables false
set_option linter.unusedSimpArgs false
theorem bytes_C (W : World) (s : ByteArray) (hs : s.size ≤ 1000000) : Kd.C (Kd.int .u8) (Lib.bytesWorld W 5 s) (some ⟨W.heap.size,0,none⟩) (bytesOf s).length (bytesOf s):=by
 have := Kd.C_of_reads (h1 := fun _ => rfl) (bytes_reads W 5 s (by omega))
 rw [bytesOf_length]
 exact this
set_option maxHeartbeats 1000000 in
set_option maxRecDepth 1000000 in
theorem table_entries.calls (A0 : Option Addr) (c0 : Nat) (l : List Int) (es : List S28) (w : World) (hr0 : Kd.C (Kd.int .u8) w A0 l.length l) (hc0 : l.length ≤ c0) (hby : Bytes l) (hl : l.length ≤ 30000) (h : readS l = some (es.map rowOf)) (hes : ∀ e ∈ es,okB e) (hle : es.length ≤ 1000000) :
  Calls Try.prog 57 #[.slice A0 l.length c0] w fun e w'=>∃ v,e = .returned (.tuple #[v,.bool true])∧Kd.R k28 28 w' w.heap.size (fun _=>True) v es∧Below w.heap.size w w':=by
 have hu28 := Try.underlying28
 have hu136 := Try.underlying136
 have HQ := Aside0.mk (block_Read.calls A0 c0 l w hr0 hc0 hby hl _ h)
 have HES := Aside0.mk hes
 have HLE := Aside0.mk hle
 clear hr0 hc0 hby hl h hes hle
 go_enter Try.func57, Try.ntmps57
 go_wp2_with (go_at_call 78;refine HQ.out.mono ?_;rintro e w1 ⟨v1,er,rfl,hb,hres⟩;obtain ⟨rfl,hv⟩:=hres;obtain ⟨Av,cv,rfl⟩:=Kd.R_slice hv;have HV:=Aside0.mk (Kd.R_reads' hv).2;rw [List.length_map];have HB1:=Aside0.mk hb;clear hb hv)
 go_loopg [6,22] es.length (fun kx s6 s22 wr=>∃ i : Nat,s22 = .int .i64 i∧i ≤ es.length∧es.length - i ≤ kx∧Aside0 (Kd.R k28 28 wr w1.heap.size (fun _=>True) s6 (es.take i))∧Aside0 (Below w1.heap.size w1 wr))
 case atStart => exact ⟨0, rfl, Nat.zero_le _, by omega, ⟨Kd.R_nil _ _ _ _ _⟩, ⟨Below.refl _ _⟩⟩
 case round =>
  obtain ⟨i, rfl, hie, hik, HO, HB⟩ := hrel
  by_cases hi : i < es.length
  ·cases gk with
   | zero => omega
   | succ k1 =>
   have HVr := Aside0.mk (Kd.C_below HV.out.2 HB.out)
   rw [List.length_map] at HVr
   obtain ⟨ad, rfl, g0, g1⟩ := at_T136 HVr.out (i : Int) (by omega) (by omega)
   have hx : rd_T136 (es.map rowOf) (i : Int) = rowOf (es[i]) := by
    unfold rd_T136;rw [Int.toNat_natCast,List.getD_eq_getElem?_getD,List.getElem?_map,List.getElem?_eq_getElem hi];rfl
   have hxm : es[i] ∈ es := List.getElem_mem hi
   have htk : es.take (i + 1) = es.take i ++ [es[i]] := by rw [List.take_succ_eq_append_getElem hi]
   have HX := HES.out _ hxm
   rw [hx] at g0 g1
   rw [Int.toNat_natCast] at g0
   simp only [Int.toNat_natCast] at g1
   generalize es[i] = x at *
   have g0 : wr.cell? (ad.add (i * 2)) = some (.string (keyS x)) := g0
   have g1 : wr.cell? ⟨(ad.add (i * 2)).block, (ad.add (i * 2)).off + 1, none⟩ = some (.string (valS x)) := g1
   obtain ⟨K, hK⟩ := valS_text HX
   have HG := Aside0.mk (hK K (Nat.le_refl _))
   have HRS := valS_rest HX
   have HSZ := valS_size HX.2.1
   have hsp := put_length10 (n := x.f3.size) (by have := HX.2.1; omega)
   have hpp := put_pos (n := x.f3.size) (by have := HX.2.1; omega)
   have h3 := HX.2.1
   have h4 := HX.2.2
   obtain ⟨m, hm⟩ : ∃ m, m = (put x.f3.size).length + x.f3.size := ⟨_, rfl⟩
   rw [← hm] at HG HRS
   have hmz : ((m : Int) == 0) = false := beq_eq_false_iff_ne.2 (by omega)
   have hms : m ≤ (valS x).size := by omega
   have hvs : (valS x).size ≤ 1000000 := by omega
   have p1 : ((0 : Int) ≤ (i : Int)) = True := eq_true (by omega)
   have p2 : ((i : Int) < (es.length : Int)) = True := eq_true (by omega)
   have p3 : (i < es.length) = True := eq_true hi
   have p4 : ((0 : Int) ≤ (m : Int)) = True := eq_true (by omega)
   have p5 : ((m : Int) ≤ ((valS x).size : Int)) = True := eq_true (by omega)
   have kb : ∀ W,(convert 9 43 (.string (valS x))).run Try.prog W = .ok (.slice (some ⟨W.heap.size,0,none⟩) (bytesOf (valS x)).length (grownCap W (valS x).size 0 5)) (Lib.bytesWorld W 5 (valS x)):=fun W=>by rw [bytesOf_length];exact print_bytes (P:=Try.prog) 9 43 5 Try.underlying9 Try.underlying43 Try.underlying5 (valS x) W
   have HU := Aside0.mk (unkeyE.calls x HX.1)
   have HKB := Aside0.mk hvs
   clear HSZ hsp hpp h3 h4 hm hK hx hxm hvs
   go_wp2_with (first | (go_at_call 79;have ha:=heap_new_ wr (.cells #[.string (keyS x),.string (valS x)] 136);have HBa:=Aside0.mk (below_alloc HB.out (.cells #[.string (keyS x),.string (valS x)] 136));refine (HU.out _).mono ?_;rintro e w2 ⟨rfl,hb⟩;have HB2:=Aside0.mk (below_step HBa.out hb);have HR2:=Aside0.mk (below_step (below_alloc (Below.refl _ wr) (.cells #[.string (keyS x),.string (valS x)] 136)) hb);have ha2:=(hb.block wr.heap.size (by simp)).trans ha;have hab:=blk_alloc ha2 (.cells #[.string x.f0,.int .i64 x.f1,.int .i64 x.f2,.string ⟨#[]⟩,.string ⟨#[]⟩] 28);have z0:=(blk_cell hab 0).trans rfl;have fz0:=blk_frozen hab 0;have z1:=(blk_cell hab 1).trans rfl;have fz1:=blk_frozen hab 1;have HE:=Aside0.mk (heap_new_ w2 (.cells #[.string x.f0,.int .i64 x.f1,.int .i64 x.f2,.string ⟨#[]⟩,.string ⟨#[]⟩] 28));clear hb))
   have HC80:=bytes_C (w2.alloc (.cells #[.string x.f0,.int .i64 x.f1,.int .i64 x.f2,.string ⟨#[]⟩,.string ⟨#[]⟩] 28)) (valS x) HKB.out
   rw [World.size_alloc] at HC80
   have hcap : (bytesOf (valS x)).length ≤ grownCap (w2.alloc (.cells #[.string x.f0,.int .i64 x.f1,.int .i64 x.f2,.string ⟨#[]⟩,.string ⟨#[]⟩] 28)) (valS x).size 0 5:=(by rw [bytesOf_length];exact grownCap_ge _ _ _ _)
   have hQ80:=varint_GetText.calls K (some ⟨w2.heap.size + 1,0,none⟩) (grownCap (w2.alloc (.cells #[.string x.f0,.int .i64 x.f1,.int .i64 x.f2,.string ⟨#[]⟩,.string ⟨#[]⟩] 28)) (valS x).size 0 5) (bytesOf (valS x)) x.f3 m (Lib.bytesWorld (w2.alloc (.cells #[.string x.f0,.int .i64 x.f1,.int .i64 x.f2,.string ⟨#[]⟩,.string ⟨#[]⟩] 28)) 5 (valS x)) HC80 hcap HG.out
   clear HC80 hcap
   refine hQ80.mono ?_
   rintro e w4 ⟨rfl, hb⟩
   have HBw:=Aside0.mk (bytes_below (Below.refl _ (w2.alloc (.cells #[.string x.f0,.int .i64 x.f1,.int .i64 x.f2,.string ⟨#[]⟩,.string ⟨#[]⟩] 28))) (Nat.le_refl _) 5 (valS x))
   have HB4:=Aside0.mk (below_step (below_step (below_alloc HB2.out (.cells #[.string x.f0,.int .i64 x.f1,.int .i64 x.f2,.string ⟨#[]⟩,.string ⟨#[]⟩] 28)) HBw.out) hb)
   have HR4:=Aside0.mk (below_step (below_step (below_alloc HR2.out (.cells #[.string x.f0,.int .i64 x.f1,.int .i64 x.f2,.string ⟨#[]⟩,.string ⟨#[]⟩] 28)) HBw.out) hb)
   have hsz2 : (w2.alloc (.cells #[.string x.f0,.int .i64 x.f1,.int .i64 x.f2,.string ⟨#[]⟩,.string ⟨#[]⟩] 28)).heap.size = w2.heap.size + 1:=by simp
   have hE4:=(hb.block w2.heap.size (by have:=HBw.out.size;omega)).trans ((HBw.out.block w2.heap.size (by omega)).trans HE.out)
   have hA4:=(hb.block wr.heap.size (by have:=HBw.out.size;have:=blk_lt ha2;omega)).trans ((HBw.out.block wr.heap.size (by have:=blk_lt ha2;omega)).trans hab)
   have a0 := (blk_cell hA4 0).trans rfl
   have fa0 := blk_frozen hA4 0
   have a1 := (blk_cell hA4 1).trans rfl
   have fa1 := blk_frozen hA4 1
   have e0 := (blk_cell hE4 0).trans rfl
   have fe0 := blk_frozen hE4 0
   have e1 := (blk_cell hE4 1).trans rfl
   have fe1 := blk_frozen hE4 1
   have e2 := (blk_cell hE4 2).trans rfl
   have fe2 := blk_frozen hE4 2
   have e3 := (blk_cell hE4 3).trans rfl
   have fe3 := blk_frozen hE4 3
   have e4 := (blk_cell hE4 4).trans rfl
   have fe4 := blk_frozen hE4 4
   clear hb hQ80
   go_wp2
   go_region
   have hwr2 : wr.heap.size ≤ w2.heap.size := HR2.out.size
   have hw12 : w1.heap.size ≤ w2.heap.size := HB2.out.size
   have HB5 : Aside0 (Below w1.heap.size w1 (((w4.setCell ⟨w2.heap.size,3,none⟩ (.string x.f3)).setCell ⟨w2.heap.size,4,none⟩ (.string x.f4)).drew)):=⟨below_drew1 (below_set (below_set HB4.out hw12) hw12)⟩
   have HR5 : Aside0 (Below wr.heap.size wr (((w4.setCell ⟨w2.heap.size,3,none⟩ (.string x.f3)).setCell ⟨w2.heap.size,4,none⟩ (.string x.f4)).drew)):=⟨below_drew1 (below_set (below_set HR4.out hwr2) hwr2)⟩
   have hE5 : (((w4.setCell ⟨w2.heap.size,3,none⟩ (.string x.f3)).setCell ⟨w2.heap.size,4,none⟩ (.string x.f4)).drew).heap[w2.heap.size]? = some (.cells #[.string x.f0,.int .i64 x.f1,.int .i64 x.f2,.string x.f3,.string x.f4] 28 (0,0)):=blk_drew (blk_put (blk_put hE4 3 _ rfl) 4 _ rfl)
   have HO5:=Aside0.mk (Kd.R_mono (ok':=fun _=>True) (Kd.R_elder' (v:=.slice none 0 0) HO.out (by intro k hk;simp [Value.ownBlock] at hk) HR5.out) (fun _ _=>trivial))
   generalize ((w4.setCell ⟨w2.heap.size,3,none⟩ (.string x.f3)).setCell ⟨w2.heap.size,4,none⟩ (.string x.f4)).drew = w5 at HB5 HR5 hE5 HO5 ⊢
   clear e0 fe0 e1 fe1 e2 fe2 e3 fe3 e4 fe4 a0 a1 fa0 fa1 z0 z1 fz0 fz1
   have e0 := (blk_cell hE5 0).trans rfl
   have fe0 := blk_frozen hE5 0
   have e1 := (blk_cell hE5 1).trans rfl
   have fe1 := blk_frozen hE5 1
   have e2 := (blk_cell hE5 2).trans rfl
   have fe2 := blk_frozen hE5 2
   have e3 := (blk_cell hE5 3).trans rfl
   have fe3 := blk_frozen hE5 3
   have e4 := (blk_cell hE5 4).trans rfl
   have fe4 := blk_frozen hE5 4
   go_wp2_with (first | ((with_reducible refine gate_builtin (b:=.append) (xs:=#[.tmp 52,.tmp 54]) rfl ?_);at_builtin;refine Kd.R_append k28 (w0:=w1) w1.heap.size rfl (.tmp 52) (.tmp 54) 24 28 (.agg #[(.string ⟨#[]⟩),(.int .i64 0),(.int .i64 0),(.string ⟨#[]⟩),(.string ⟨#[]⟩)]) 64 rfl Try.underlying24 info28 rfl (by decide) (by omega) u6 (es.take i) x [.string x.f0,.int .i64 x.f1,.int .i64 x.f2,.string x.f3,.string x.f4] (fun _=>True) (fun _=>False) rfl rfl ?aP (fun _ hk=>hk.elim) ?aF ?aO ?aB ?aS ?aL ?_;(case aP=>exact k28_mkM _ _ _ x);(case aB=>exact (by repeat (first | exact HB5.out | apply below_alloc | apply pw_below_drewN | apply below_drew1)));(case aF=>exact (fun _ _=>trivial));(case aO=>exact (by (with_reducible repeat (first | apply Kd.R_alloc | apply Kd.R_drewN | apply Kd.R_drew));exact HO5.out));(case aS=>exact (below_size (by repeat (first | exact HB5.out | apply below_alloc | apply pw_below_drewN | apply below_drew1))));(case aL=>have:=HLE.out;rw [List.length_take];omega);intro v6 w6 ho hb hg hat;have HO6:=Aside0.mk ho;have HB6:=Aside0.mk hb;clear ho hb hg hat))
   go_roundg k1
   case measure => omega
   case rel=>exact ⟨i + 1,by rw [wrap64_id (by omega) (by have:=HLE.out;omega)];rfl,by omega,by omega,⟨by rw [htk];exact HO6.out⟩,HB6⟩
  ·obtain rfl : i = es.length := by omega
   have p2 : ((es.length : Int) < (es.length : Int)) = False := eq_false (by omega)
   rw [List.take_length] at HO
   go_wp2
   go_ret2
   exact ⟨_, rfl, Kd.R_lower HO.out HB1.out.size, below_step HB1.out HB.out⟩
end Go.Proofs.Ytenmljkddhonmaa.MTbl
