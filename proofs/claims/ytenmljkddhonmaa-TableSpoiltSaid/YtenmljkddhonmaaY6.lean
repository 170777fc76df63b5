import Derived.Test.YtenmljkddhonmaaY1
import Derived.Test.YtenmljkddhonmaaY4
-- Written by a program of this session for this claim (out of the translation's print); Lean checks it.
namespace Go.Proofs.Ytenmljkddhonmaa.MTbl
open Go.RowKit Go.Proofs.YtenmljkddhonmaaW.PrintWords Go.Proofs.YtenmljkddhonmaaW.PrintLast Go.Proofs.YtenmljkddhonmaaW.PrintMore
attribute [local go_sem] max2_int min2_int max_two min_two max_three min_three max_four min_four   -- for this text's walks alone
set_option linter.unusedVariables false
set_option linter.unusedSimpArgs false

/-! ### bloom_May: function 59, by hand -/
def bitSet (f : List Int) (p : Int) : Bool:=!(Go.bits .and .u8 (f.getD (p / 8).toNat 0) (2 ^ (p % 8).toNat % 256) == 0)
def bloom_May.f (k : Nat) (l0 : List Int) (a1 : ByteArray) : Option Bool :=
 if l0.length < 1000000 then
  (if (l0.length : Int) - 1 < 1 then some true
  else if l0.getD (l0.length - 1) 0 = 6 then (placesF k a1 (((l0.length : Int) - 1) * 8)).bind fun ps=>some (ps.all (bitSet l0)) else some true)
 else none
theorem bloom_May.mono : ∀ a0 a1 k, LeO (bloom_May.f k a0 a1) (bloom_May.f (k + 1) a0 a1) := by
 intro a0 a1 k
 unfold bloom_May.f placesF
 exact LeO.ite (LeO.ite (LeO.refl _) (LeO.ite (LeO.bind (LeO.bind (ckey_Hash.mono _ _) (fun _=>LeO.refl _)) (fun _=>LeO.refl _)) (LeO.refl _))) (LeO.refl _)
theorem bloom_May.calls (k : Nat) (A0 : Option Addr) (c0 : Nat) (l0 : List Int) (a1 : ByteArray) (r : Bool) (w : World) (hr0 : Kd.C (Kd.int .u8) w A0 l0.length l0) (hc0 : l0.length ≤ c0) (h : bloom_May.f k l0 a1 = some r) :
  Calls Try.prog 59 #[.slice A0 l0.length c0,.string a1] w fun e w'=>e = .returned (.bool r)∧Below w.heap.size w w':=by
 have HR0 := Aside0.mk hr0
 clear hr0
 unfold bloom_May.f at h
 by_cases hl : l0.length < 1000000
 ·rw [if_pos hl] at h
  by_cases c1 : (l0.length : Int) - 1 < 1
  ·rw [if_pos c1] at h
   obtain rfl := Option.some.inj h
   have c1b := eq_true c1
   go_enter Try.func59, Try.ntmps59
   go_wp2
   go_ret
   exact ⟨rfl, Below.refl _ _⟩
  ·rw [if_neg c1] at h
   have c1b := eq_false c1
   have H := Aside0.mk h
   clear h
   obtain ⟨ad,rfl,hcl⟩ : ∃ ad,A0 = some ad∧∀ (W : World),Below w.heap.size w W → ∀ i,i < l0.length → W.cell? (ad.add i) = some (.int .u8 (l0.getD i 0)):=by
    obtain ⟨_, _, h3⟩ := Kd.reads_of_C (enc := Value.int .u8) (d := (0 : Int)) (h1 := fun _ => rfl) HR0.out
    obtain ⟨ad, e, h4⟩ := h3 (by omega)
    exact ⟨ad, e, fun W hW i hi => (pw_cell_below hW (h4 i hi))⟩
   have hc1 := hcl w (Below.refl _ _) (l0.length - 1) (by omega)
   have e1 : ((l0.length : Int) - 1).toNat = l0.length - 1 := by omega
   have q0 : ((0 : Int) ≤ (l0.length : Int) - 1) = True := eq_true (by omega)
   have q1 : ((l0.length : Int) - 1 < (l0.length : Int)) = True := eq_true (by omega)
   by_cases c2 : l0.getD (l0.length - 1) 0 = 6
   ·have H := H.out
    rw [if_pos c2] at H
    rw [c2] at hc1
    obtain ⟨ps, HP, H⟩ := Option.bind_eq_some_iff.mp H
    have hr := Option.some.inj H
    clear H
    have HP := Aside0.mk HP
    obtain ⟨hpl, hpr⟩ := placesF_props HP.out
    have HRr := Aside0.mk hr
    clear hr
    have hw1 : IntKind.u64.wrap ((l0.length : Int) - 1) = (l0.length : Int) - 1:=by simp only [IntKind.wrap,IntKind.signed,IntKind.bits,Bool.false_and,Bool.false_eq_true,if_false];omega
    have hw2 : IntKind.u64.wrap (((l0.length : Int) - 1) * 8) = ((l0.length : Int) - 1) * 8:=by simp only [IntKind.wrap,IntKind.signed,IntKind.bits,Bool.false_and,Bool.false_eq_true,if_false];omega
    go_enter Try.func59, Try.ntmps59
    go_wp2_with (first|(go_at_call 71;(with_reducible refine (bloom_places.calls k a1 (((l0.length : Int) - 1) * 8) ps _ HP.out).mono ?_);rintro e w' ⟨rfl,hb⟩;have HB:=Aside0.mk hb;clear hb))
    go_loopg [25] 6 (fun kx s25 wr=>∃ (j : Nat),s25 = .int .i64 j∧j + kx = 6∧Aside0 ((ps.drop j).all (bitSet l0) = r)∧Aside0 (Below w.heap.size w wr))
    case atStart => exact ⟨0, rfl, rfl, HRr, HB⟩
    case round =>
     clear HB HRr
     obtain ⟨j, rfl, hk2, HF, HB⟩ := hrel
     cases gk with
     | zero =>
      have hj : ((j : Int) < 6) = False := eq_false (by omega)
      have hrt : true = r := by have h_ := HF.out; rw [List.drop_eq_nil_of_le (by omega)] at h_; exact h_
      subst hrt
      go_wp2
      go_ret
      exact ⟨rfl, HB.out⟩
     | succ k2 =>
      have hj : ((j : Int) < 6) = True := eq_true (by omega)
      have hj1 : (j < ps.length) = True := eq_true (by omega)
      have hj0 : ((0 : Int) ≤ (j : Int)) = True := eq_true (by omega)
      have hdj : ps.drop j = ps.getD j 0 :: ps.drop (j + 1):=by rw [List.drop_eq_getElem_cons (by omega),List.getD_eq_getElem?_getD,List.getElem?_eq_getElem (by omega)];rfl
      have hidx : (List.map (Value.int IntKind.u64) ps).toArray[j]? = some (Value.int .u64 (ps.getD j 0)) := by
       rw [List.getElem?_toArray,List.getElem?_map,List.getD_eq_getElem?_getD,List.getElem?_eq_getElem (by omega)];rfl
      have hpj:=hpr (ps.getD j 0) (by rw [List.getD_eq_getElem?_getD,List.getElem?_eq_getElem (show j < ps.length by omega)];exact List.getElem_mem _)
      have H := HF.out
      rw [hdj, List.all_cons] at H
      clear hdj HF
      generalize ps.getD j 0 = p at H hidx hpj
      have hix : ∀ W : World,(Instr.index 123 (.agg (List.map (Value.int IntKind.u64) ps).toArray) (.int .i64 (j : Int))).run Try.prog W = .ok (.int .u64 p) W:=fun W=>run_index123 W _ j _ hidx (by omega)
      have hcp := hcl wr HB.out (p / 8).toNat (by omega)
      rw [show bitSet l0 p = !(Go.bits .and .u8 (l0.getD (p / 8).toNat 0) (2 ^ (p % 8).toNat % 256) == 0) from rfl] at H
      generalize l0.getD (p / 8).toNat 0 = y at H hcp
      have hp8 : (p / 8 < (l0.length : Int)) = True := eq_true (by omega)
      cases hz : (Go.bits .and .u8 y (2 ^ (p % 8).toNat % 256) == 0) with
      | true =>
       rw [hz] at H
       have hrt : false = r := by simpa using H
       subst hrt
       go_wp2
       go_ret
       exact ⟨rfl, HB.out⟩
      | false =>
       rw [hz] at H
       have HF := Aside0.mk (show (ps.drop (j + 1)).all (bitSet l0) = r from by simpa using H)
       clear H
       go_wp2
       go_roundg k2
       case measure => omega
       case rel => exact ⟨j + 1, rfl, by omega, HF, HB⟩
   ·have H := H.out
    rw [if_neg c2] at H
    obtain rfl := Option.some.inj H
    generalize l0.getD (l0.length - 1) 0 = y at hc1 c2
    have c2b : (y != 6) = true := bne_iff_ne.mpr c2
    go_enter Try.func59, Try.ntmps59
    go_wp2
    go_ret
    exact ⟨rfl, Below.refl _ _⟩
 ·rw [if_neg hl] at h; cases h

-- NOT PRINTED: function 61 (sort_Search)

/-! ### ikey_Find: function 60, by hand: sort.Search is told as the binary search that it is -/
/-- A binary search over places. -/
def bsearch (p : Nat → Bool) : Nat → Nat → Nat → Nat
 | 0, lo, _ => lo
 | k + 1,lo,hi=>if lo < hi then (if p ((lo + hi) / 2) then bsearch p k lo ((lo + hi) / 2) else bsearch p k ((lo + hi) / 2 + 1) hi) else lo
theorem bsearch_le (p : Nat → Bool) : ∀ k lo hi, lo ≤ hi → bsearch p k lo hi ≤ hi
 | 0, lo, hi, h => h
 | k + 1, lo, hi, h => by
  unfold bsearch
  split
  ·split
   ·exact Nat.le_trans (bsearch_le p k lo _ (by omega)) (by omega)
   ·exact bsearch_le p k _ hi (by omega)
  ·exact h
set_option maxHeartbeats 4000000 in
set_option maxRecDepth 1000000 in
theorem sort_Search.calls (cb : Array Value) (n : Nat) (p : Nat → Bool) (w : World) (hsz : n < 4611686018427387904)
  (hf : ∀ (w1 : World) (i : Nat),Below w.heap.size w w1 → i < n → Calls Try.prog 81 (#[.int .i64 i] ++ cb) w1 fun e w'=>e = .returned (.bool (p i))∧Below w1.heap.size w1 w') :
  Calls Try.prog 61 #[.int .i64 n,.func (.func 81) #[] cb] w fun e w'=>e = .returned (.int .i64 (bsearch p n 0 n : Nat))∧Below w.heap.size w w':=by
 have HF := Aside0.mk hf
 clear hf
 generalize hcnt : bsearch p n 0 n = cnt
 have CN := Aside0.mk hcnt
 clear hcnt
 go_enter Try.func61, Try.ntmps61
 go_wp2
 go_loopg [5,6] n (fun kx s5 s6 wr=>∃ (lo hi : Nat),s5 = .int .i64 lo∧s6 = .int .i64 hi∧lo ≤ hi∧hi ≤ n∧hi - lo ≤ kx∧Aside0 (Below w.heap.size w wr)∧Aside0 (bsearch p kx lo hi = cnt))
 case atStart => exact ⟨0, n, rfl, rfl, Nat.zero_le _, Nat.le_refl _, by omega, ⟨Below.refl _ _⟩, CN⟩
 case round =>
  obtain ⟨lo, hi, rfl, rfl, hlh, hin, hg, HB, I⟩ := hrel
  by_cases hlt : lo < hi
  ·cases gk with
   | zero => omega
   | succ k1 =>
   have I2 := I.out
   unfold bsearch at I2
   rw [if_pos hlt] at I2
   clear I
   have hc := HF.out wr ((lo + hi) / 2) HB.out (by omega)
   rw [show (((lo + hi) / 2 : Nat) : Int) = ((lo : Int) + (hi : Int)) / 2 by omega] at hc
   cases hp : p ((lo + hi) / 2) <;> rw [hp] at hc I2
   ·have I3 : Aside0 (bsearch p k1 ((lo + hi) / 2 + 1) hi = cnt) := ⟨by simpa using I2⟩
    clear hp I2
    go_wp2_with (go_at_call 81;refine hc.mono ?_;rintro e w' ⟨rfl,hb⟩;have HB2:=Aside0.mk (below_step HB.out hb);clear hb)
    go_roundg k1
    case measure => omega
    case rel=>exact ⟨(lo + hi) / 2 + 1,hi,by rw [show ((lo : Int) + (hi : Int)) / 2 + 1 = (((lo + hi) / 2 + 1 : Nat) : Int) by omega],rfl,by omega,hin,by omega,HB2,I3⟩
   ·have I3 : Aside0 (bsearch p k1 lo ((lo + hi) / 2) = cnt) := ⟨by simpa using I2⟩
    clear hp I2
    go_wp2_with (go_at_call 81;refine hc.mono ?_;rintro e w' ⟨rfl,hb⟩;have HB2:=Aside0.mk (below_step HB.out hb);clear hb)
    go_roundg k1
    case measure => omega
    case rel=>exact ⟨lo,(lo + hi) / 2,rfl,by rw [show ((lo : Int) + (hi : Int)) / 2 = (((lo + hi) / 2 : Nat) : Int) by omega],by omega,by omega,by omega,HB2,I3⟩
  ·obtain rfl : hi = lo := by omega
   have ecnt : cnt = hi := by
    have I2 := I.out
    cases gk with
    | zero => exact I2.symm
    | succ k1 => unfold bsearch at I2; rw [if_neg (by omega)] at I2; exact I2.symm
   subst ecnt
   go_wp2
   go_ret
   exact ⟨rfl, HB.out⟩
theorem binOp_string_gtr_ (t : TypeId) (a b : ByteArray) : binOp .gtr t (.string a) (.string b) = pure (.bool !(Op.bytesLess a.toList b.toList || a.toList == b.toList)):=by simp [binOp,Op.stringOp]
attribute [local go_sem] binOp_string_gtr_
/-- What the closure of Find says at a place. -/
def findAt (l : List (S28)) (a1 : ByteArray) (a2 : Int) (i : Nat) : Bool:=!(Op.bytesLess (rd_T28 l i).f0.toList a1.toList || (rd_T28 l i).f0.toList == a1.toList) || ((rd_T28 l i).f0.toList == a1.toList && decide ((rd_T28 l i).f1 ≤ a2))
set_option maxHeartbeats 4000000 in
set_option maxRecDepth 1000000 in
theorem ikey_Find_closure.calls (ba bn bs : Nat) (A0 : Option Addr) (c0 : Nat) (l0 : List (S28)) (a1 : ByteArray) (a2 : Int) (i : Nat) (w : World) (hi : i < l0.length) (hr0 : Kd.C k28 w A0 l0.length l0)
  (ha : w.cell? ⟨ba,0,none⟩ = some (.slice A0 l0.length c0)) (hn : w.cell? ⟨bn,0,none⟩ = some (.string a1)) (hs : w.cell? ⟨bs,0,none⟩ = some (.int .i64 a2)) :
  Calls Try.prog 81 (#[.int .i64 i] ++ #[.pointer (some ⟨ba,0,none⟩),.pointer (some ⟨bn,0,none⟩),.pointer (some ⟨bs,0,none⟩)]) w fun e w'=>e = .returned (.bool (findAt l0 a1 a2 i))∧Below w.heap.size w w':=by
 have hu28 := Try.underlying28
 obtain ⟨ad, rfl, h0, h1, _, _, _⟩ := at_T28 hr0 (i : Int) (by omega) (by omega)
 have p1 : ((0 : Int) ≤ (i : Int)) = True := eq_true (by omega)
 have p2 : ((i : Int) < (l0.length : Int)) = True := eq_true (by omega)
 have p3 : (i < l0.length) = True := eq_true hi
 clear hr0
 rw [Int.toNat_natCast] at h0
 simp only [Int.toNat_natCast] at h1
 unfold findAt
 generalize (rd_T28 l0 (i : Int)).f0 = x at h0 ⊢
 generalize (rd_T28 l0 (i : Int)).f1 = y at h1 ⊢
 cases hg : Op.bytesLess x.toList a1.toList <;> cases he : (x.toList == a1.toList)
 all_goals go_enter Try.func81, Try.ntmps81
 all_goals go_wp2
 all_goals go_region
 all_goals go_wp2
 all_goals go_ret
 all_goals exact ⟨by first | rfl | simp [hg,he],by repeat (first|exact Below.refl _ _|apply below_alloc|apply pw_below_drewN|apply below_drew1)⟩
def ikey_Find.f (l0 : List (S28)) (a1 : ByteArray) (a2 : Int) : Option (ByteArray × Int × Int × ByteArray × ByteArray × Bool) :=
 if l0.length < 4611686018427387904 then
  (if bsearch (findAt l0 a1 a2) l0.length 0 l0.length < l0.length then
   (if (rd_T28 l0 (bsearch (findAt l0 a1 a2) l0.length 0 l0.length : Nat)).f0.toList = a1.toList then
    some ((rd_T28 l0 (bsearch (findAt l0 a1 a2) l0.length 0 l0.length : Nat)).f0,(rd_T28 l0 (bsearch (findAt l0 a1 a2) l0.length 0 l0.length : Nat)).f1,(rd_T28 l0 (bsearch (findAt l0 a1 a2) l0.length 0 l0.length : Nat)).f2,(rd_T28 l0 (bsearch (findAt l0 a1 a2) l0.length 0 l0.length : Nat)).f3,(rd_T28 l0 (bsearch (findAt l0 a1 a2) l0.length 0 l0.length : Nat)).f4,true)
   else some (⟨#[]⟩, 0, 0, ⟨#[]⟩, ⟨#[]⟩, false))
  else some (⟨#[]⟩, 0, 0, ⟨#[]⟩, ⟨#[]⟩, false))
 else none
theorem cell_new_ (W : World) (v : Value) (t : TypeId) : (W.alloc (.cells #[v] t)).cell? ⟨W.heap.size,0,none⟩ = some v:=by
 rw [World.cell?_alloc_at _ _ _ _ (by simp)]; rfl
theorem heap_new_ (W : World) (o : Obj) : (W.alloc o).heap[W.heap.size]? = some o := by
 show (W.heap.push o)[W.heap.size]? = _
 exact Array.getElem?_push_size
theorem cell_alloc_ {W : World} {a : Addr} {v : Value} (o : Obj) (h : W.cell? a = some v) : (W.alloc o).cell? a = some v :=
 (World.cell?_alloc_lt _ _ _ (World.block_lt_of_cell? _ _ h)).trans h
set_option maxHeartbeats 8000000 in
set_option maxRecDepth 1000000 in
theorem ikey_Find.calls (A0 : Option Addr) (c0 : Nat) (l0 : List (S28)) (a1 : ByteArray) (a2 : Int) (r1 : ByteArray) (r2 : Int) (r3 : Int) (r4 : ByteArray) (r5 : ByteArray) (r6 : Bool) (w : World) (hr0 : Kd.C k28 w A0 l0.length l0) (hc0 : l0.length ≤ c0) (h : ikey_Find.f l0 a1 a2 = some (r1,r2,r3,r4,r5,r6)) :
  Calls Try.prog 60 #[.slice A0 l0.length c0,.string a1,.int .i64 a2] w fun e w'=>e = .returned (.tuple #[.agg #[.string r1,.int .i64 r2,.int .i64 r3,.string r4,.string r5],.bool r6])∧Below w.heap.size w w':=by
 have hu28 := Try.underlying28
 unfold ikey_Find.f at h
 by_cases hsz : l0.length < 4611686018427387904
 ·rw [if_pos hsz] at h
  obtain ⟨W0,hW0⟩ : ∃ W0,W0 = (((w.alloc (.cells #[.slice A0 l0.length c0] 24)).alloc (.cells #[.string a1] 9)).alloc (.cells #[.int .i64 a2] 2)).alloc (.cells #[.string ⟨#[]⟩,.int .i64 0,.int .i64 0,.string ⟨#[]⟩,.string ⟨#[]⟩] 28):=⟨_,rfl⟩
  have hB0 : Below w.heap.size w W0:=by rw [hW0];exact below_alloc (below_alloc (below_alloc (below_alloc (Below.refl _ _) _) _) _) _
  have hsize : W0.heap.size = w.heap.size + 1 + 1 + 1 + 1 := by rw [hW0]; simp
  have ca : W0.cell? ⟨w.heap.size,0,none⟩ = some (.slice A0 l0.length c0):=by rw [hW0];exact cell_alloc_ _ (cell_alloc_ _ (cell_alloc_ _ (cell_new_ w _ _)))
  have cn : W0.cell? ⟨w.heap.size + 1, 0, none⟩ = some (.string a1) := by
   rw [hW0];have:=cell_new_ (w.alloc (.cells #[.slice A0 l0.length c0] 24)) (.string a1) 9;rw [World.size_alloc] at this;exact cell_alloc_ _ (cell_alloc_ _ this)
  have cs : W0.cell? ⟨w.heap.size + 1 + 1, 0, none⟩ = some (.int .i64 a2) := by
   rw [hW0];have:=cell_new_ ((w.alloc (.cells #[.slice A0 l0.length c0] 24)).alloc (.cells #[.string a1] 9)) (.int .i64 a2) 2;rw [World.size_alloc,World.size_alloc] at this;exact cell_alloc_ _ this
  have hz : W0.heap[w.heap.size + 1 + 1 + 1]? = some (.cells #[.string ⟨#[]⟩,.int .i64 0,.int .i64 0,.string ⟨#[]⟩,.string ⟨#[]⟩] 28 (0,0)):=by
   rw [hW0];have:=heap_new_ (((w.alloc (.cells #[.slice A0 l0.length c0] 24)).alloc (.cells #[.string a1] 9)).alloc (.cells #[.int .i64 a2] 2)) (.cells #[.string ⟨#[]⟩,.int .i64 0,.int .i64 0,.string ⟨#[]⟩,.string ⟨#[]⟩] 28);rw [World.size_alloc,World.size_alloc,World.size_alloc] at this;exact this
  have hS:=sort_Search.calls #[.pointer (some ⟨w.heap.size,0,none⟩),.pointer (some ⟨w.heap.size + 1,0,none⟩),.pointer (some ⟨w.heap.size + 1 + 1,0,none⟩)] l0.length (findAt l0 a1 a2) W0 hsz
   (fun w1 i hb hi=>ikey_Find_closure.calls w.heap.size (w.heap.size + 1) (w.heap.size + 1 + 1) A0 c0 l0 a1 a2 i w1 hi (Kd.C_below (Kd.C_below hr0 hB0) hb) ((hb.cell (show w.heap.size < W0.heap.size by omega)).trans ca) ((hb.cell (show w.heap.size + 1 < W0.heap.size by omega)).trans cn) ((hb.cell (show w.heap.size + 1 + 1 < W0.heap.size by omega)).trans cs))
  have hle := bsearch_le (findAt l0 a1 a2) l0.length 0 l0.length (Nat.zero_le _)
  generalize bsearch (findAt l0 a1 a2) l0.length 0 l0.length = at_ at h hS hle
  have HB0 := Aside0.mk hB0
  clear hB0
  by_cases c1 : at_ < l0.length
  ·rw [if_pos c1] at h
   obtain ⟨ad, rfl, h0, h1, h2, h3, h4⟩ := at_T28 hr0 (at_ : Int) (by omega) (by omega)
   rw [Int.toNat_natCast] at h0
   simp only [Int.toNat_natCast] at h1 h2 h3 h4
   have p1 : ((0 : Int) ≤ (at_ : Int)) = True := eq_true (by omega)
   have p2 : ((at_ : Int) < (l0.length : Int)) = True := eq_true (by omega)
   have p3 : (at_ < l0.length) = True := eq_true c1
   have h0' := (HB0.out.cell (World.block_lt_of_cell? w _ h0)).trans h0
   have h1' := (HB0.out.cell (World.block_lt_of_cell? w _ h1)).trans h1
   have h2' := (HB0.out.cell (World.block_lt_of_cell? w _ h2)).trans h2
   have h3' := (HB0.out.cell (World.block_lt_of_cell? w _ h3)).trans h3
   have h4' := (HB0.out.cell (World.block_lt_of_cell? w _ h4)).trans h4
   by_cases c2 : (rd_T28 l0 (at_ : Int)).f0.toList = a1.toList
   ·rw [if_pos c2] at h
    have c2b : ((rd_T28 l0 (at_ : Int)).f0.toList == a1.toList) = true := beq_iff_eq.mpr c2
    simp only [Option.some.injEq, Prod.mk.injEq] at h
    obtain ⟨rfl, rfl, rfl, rfl, rfl, rfl⟩ := h
    clear c2
    go_enter Try.func60, Try.ntmps60
    go_wp2_with (go_at_call 61;rw [← hW0];refine hS.mono ?_;rintro e w' ⟨rfl,hb⟩;have HB:=Aside0.mk (below_step HB0.out hb);have ca2:=(hb.cell (show w.heap.size < W0.heap.size by omega)).trans ca;have cn2:=(hb.cell (show w.heap.size + 1 < W0.heap.size by omega)).trans cn;have hz2:=(hb.block (w.heap.size + 1 + 1 + 1) (by omega)).trans hz;have g0:=(hb.cell (World.block_lt_of_cell? W0 _ h0')).trans h0';have g1:=(hb.cell (World.block_lt_of_cell? W0 _ h1')).trans h1';have g2:=(hb.cell (World.block_lt_of_cell? W0 _ h2')).trans h2';have g3:=(hb.cell (World.block_lt_of_cell? W0 _ h3')).trans h3';have g4:=(hb.cell (World.block_lt_of_cell? W0 _ h4')).trans h4';have z0:=(blk_cell hz2 0).trans rfl;have f0:=blk_frozen hz2 0;have z1:=(blk_cell hz2 1).trans rfl;have f1:=blk_frozen hz2 1;have z2:=(blk_cell hz2 2).trans rfl;have f2:=blk_frozen hz2 2;have z3:=(blk_cell hz2 3).trans rfl;have f3:=blk_frozen hz2 3;have z4:=(blk_cell hz2 4).trans rfl;have f4:=blk_frozen hz2 4;clear hb)
    repeat (go_quiet (fail); try go_wp2)
    refine bodyPost_ret (results_ct rfl _ _ (w.heap.size + 1 + 1 + 1) 28 #[.string (rd_T28 l0 (at_ : Int)).f0,.int .i64 (rd_T28 l0 (at_ : Int)).f1,.int .i64 (rd_T28 l0 (at_ : Int)).f2,.string (rd_T28 l0 (at_ : Int)).f3,.string (rd_T28 l0 (at_ : Int)).f4] (0,0) _ rfl (by (with_reducible repeat (first|refine blk_drewN ?_ _|refine blk_drew ?_|refine blk_alloc ?_ _));refine blk_put (cs:=#[.string (rd_T28 l0 (at_ : Int)).f0,.int .i64 (rd_T28 l0 (at_ : Int)).f1,.int .i64 (rd_T28 l0 (at_ : Int)).f2,.string (rd_T28 l0 (at_ : Int)).f3,.string ⟨#[]⟩]) ?_ 4 _ rfl;(with_reducible repeat (first|refine blk_drewN ?_ _|refine blk_drew ?_|refine blk_alloc ?_ _));refine blk_put (cs:=#[.string (rd_T28 l0 (at_ : Int)).f0,.int .i64 (rd_T28 l0 (at_ : Int)).f1,.int .i64 (rd_T28 l0 (at_ : Int)).f2,.string ⟨#[]⟩,.string ⟨#[]⟩]) ?_ 3 _ rfl;(with_reducible repeat (first|refine blk_drewN ?_ _|refine blk_drew ?_|refine blk_alloc ?_ _));refine blk_put (cs:=#[.string (rd_T28 l0 (at_ : Int)).f0,.int .i64 (rd_T28 l0 (at_ : Int)).f1,.int .i64 0,.string ⟨#[]⟩,.string ⟨#[]⟩]) ?_ 2 _ rfl;(with_reducible repeat (first|refine blk_drewN ?_ _|refine blk_drew ?_|refine blk_alloc ?_ _));refine blk_put (cs:=#[.string (rd_T28 l0 (at_ : Int)).f0,.int .i64 0,.int .i64 0,.string ⟨#[]⟩,.string ⟨#[]⟩]) ?_ 1 _ rfl;(with_reducible repeat (first|refine blk_drewN ?_ _|refine blk_drew ?_|refine blk_alloc ?_ _));refine blk_put (cs:=#[.string ⟨#[]⟩,.int .i64 0,.int .i64 0,.string ⟨#[]⟩,.string ⟨#[]⟩]) ?_ 0 _ rfl;(with_reducible repeat (first|refine blk_drewN ?_ _|refine blk_drew ?_|refine blk_alloc ?_ _));exact hz2) Try.underlying28 rfl (by kernel_rfl)) rfl ?_
    exact ⟨by first | rfl | simp,by repeat (first|exact HB.out|refine below_set ?_ (by omega)|apply below_alloc|apply pw_below_drewN|apply below_drew1)⟩
   ·rw [if_neg c2] at h
    have c2b : ((rd_T28 l0 (at_ : Int)).f0.toList == a1.toList) = false := beq_eq_false_iff_ne.mpr c2
    simp only [Option.some.injEq, Prod.mk.injEq] at h
    obtain ⟨rfl, rfl, rfl, rfl, rfl, rfl⟩ := h
    clear c2
    go_enter Try.func60, Try.ntmps60
    go_wp2_with (go_at_call 61;rw [← hW0];refine hS.mono ?_;rintro e w' ⟨rfl,hb⟩;have HB:=Aside0.mk (below_step HB0.out hb);have ca2:=(hb.cell (show w.heap.size < W0.heap.size by omega)).trans ca;have cn2:=(hb.cell (show w.heap.size + 1 < W0.heap.size by omega)).trans cn;have hz2:=(hb.block (w.heap.size + 1 + 1 + 1) (by omega)).trans hz;have g0:=(hb.cell (World.block_lt_of_cell? W0 _ h0')).trans h0';have g1:=(hb.cell (World.block_lt_of_cell? W0 _ h1')).trans h1';have g2:=(hb.cell (World.block_lt_of_cell? W0 _ h2')).trans h2';have g3:=(hb.cell (World.block_lt_of_cell? W0 _ h3')).trans h3';have g4:=(hb.cell (World.block_lt_of_cell? W0 _ h4')).trans h4';have z0:=(blk_cell hz2 0).trans rfl;have f0:=blk_frozen hz2 0;have z1:=(blk_cell hz2 1).trans rfl;have f1:=blk_frozen hz2 1;have z2:=(blk_cell hz2 2).trans rfl;have f2:=blk_frozen hz2 2;have z3:=(blk_cell hz2 3).trans rfl;have f3:=blk_frozen hz2 3;have z4:=(blk_cell hz2 4).trans rfl;have f4:=blk_frozen hz2 4;clear hb)
    repeat (go_quiet (fail); try go_wp2)
    refine bodyPost_ret (results_ct rfl _ _ (w.heap.size + 1 + 1 + 1) 28 #[.string ⟨#[]⟩,.int .i64 0,.int .i64 0,.string ⟨#[]⟩,.string ⟨#[]⟩] (0,0) _ rfl (by (with_reducible repeat (first|refine blk_drewN ?_ _|refine blk_drew ?_|refine blk_alloc ?_ _));refine blk_put (cs:=#[.string ⟨#[]⟩,.int .i64 0,.int .i64 0,.string ⟨#[]⟩,.string ⟨#[]⟩]) ?_ 4 _ rfl;(with_reducible repeat (first|refine blk_drewN ?_ _|refine blk_drew ?_|refine blk_alloc ?_ _));refine blk_put (cs:=#[.string ⟨#[]⟩,.int .i64 0,.int .i64 0,.string ⟨#[]⟩,.string ⟨#[]⟩]) ?_ 3 _ rfl;(with_reducible repeat (first|refine blk_drewN ?_ _|refine blk_drew ?_|refine blk_alloc ?_ _));refine blk_put (cs:=#[.string ⟨#[]⟩,.int .i64 0,.int .i64 0,.string ⟨#[]⟩,.string ⟨#[]⟩]) ?_ 2 _ rfl;(with_reducible repeat (first|refine blk_drewN ?_ _|refine blk_drew ?_|refine blk_alloc ?_ _));refine blk_put (cs:=#[.string ⟨#[]⟩,.int .i64 0,.int .i64 0,.string ⟨#[]⟩,.string ⟨#[]⟩]) ?_ 1 _ rfl;(with_reducible repeat (first|refine blk_drewN ?_ _|refine blk_drew ?_|refine blk_alloc ?_ _));refine blk_put (cs:=#[.string ⟨#[]⟩,.int .i64 0,.int .i64 0,.string ⟨#[]⟩,.string ⟨#[]⟩]) ?_ 0 _ rfl;(with_reducible repeat (first|refine blk_drewN ?_ _|refine blk_drew ?_|refine blk_alloc ?_ _));exact hz2) Try.underlying28 rfl (by kernel_rfl)) rfl ?_
    exact ⟨by first | rfl | simp,by repeat (first|exact HB.out|refine below_set ?_ (by omega)|apply below_alloc|apply pw_below_drewN|apply below_drew1)⟩
  ·rw [if_neg c1] at h
   have p2 : ((at_ : Int) < (l0.length : Int)) = False := eq_false (by omega)
   have p3 : (at_ < l0.length) = False := eq_false c1
   simp only [Option.some.injEq, Prod.mk.injEq] at h
   obtain ⟨rfl, rfl, rfl, rfl, rfl, rfl⟩ := h
   go_enter Try.func60, Try.ntmps60
   go_wp2_with (go_at_call 61;rw [← hW0];refine hS.mono ?_;rintro e w' ⟨rfl,hb⟩;have HB:=Aside0.mk (below_step HB0.out hb);have ca2:=(hb.cell (show w.heap.size < W0.heap.size by omega)).trans ca;have cn2:=(hb.cell (show w.heap.size + 1 < W0.heap.size by omega)).trans cn;have hz2:=(hb.block (w.heap.size + 1 + 1 + 1) (by omega)).trans hz;have z0:=(blk_cell hz2 0).trans rfl;have f0:=blk_frozen hz2 0;have z1:=(blk_cell hz2 1).trans rfl;have f1:=blk_frozen hz2 1;have z2:=(blk_cell hz2 2).trans rfl;have f2:=blk_frozen hz2 2;have z3:=(blk_cell hz2 3).trans rfl;have f3:=blk_frozen hz2 3;have z4:=(blk_cell hz2 4).trans rfl;have f4:=blk_frozen hz2 4;clear hb)
   repeat (go_quiet (fail); try go_wp2)
   refine bodyPost_ret (results_ct rfl _ _ (w.heap.size + 1 + 1 + 1) 28 #[.string ⟨#[]⟩,.int .i64 0,.int .i64 0,.string ⟨#[]⟩,.string ⟨#[]⟩] (0,0) _ rfl (by (with_reducible repeat (first|refine blk_drewN ?_ _|refine blk_drew ?_|refine blk_alloc ?_ _));refine blk_put (cs:=#[.string ⟨#[]⟩,.int .i64 0,.int .i64 0,.string ⟨#[]⟩,.string ⟨#[]⟩]) ?_ 4 _ rfl;(with_reducible repeat (first|refine blk_drewN ?_ _|refine blk_drew ?_|refine blk_alloc ?_ _));refine blk_put (cs:=#[.string ⟨#[]⟩,.int .i64 0,.int .i64 0,.string ⟨#[]⟩,.string ⟨#[]⟩]) ?_ 3 _ rfl;(with_reducible repeat (first|refine blk_drewN ?_ _|refine blk_drew ?_|refine blk_alloc ?_ _));refine blk_put (cs:=#[.string ⟨#[]⟩,.int .i64 0,.int .i64 0,.string ⟨#[]⟩,.string ⟨#[]⟩]) ?_ 2 _ rfl;(with_reducible repeat (first|refine blk_drewN ?_ _|refine blk_drew ?_|refine blk_alloc ?_ _));refine blk_put (cs:=#[.string ⟨#[]⟩,.int .i64 0,.int .i64 0,.string ⟨#[]⟩,.string ⟨#[]⟩]) ?_ 1 _ rfl;(with_reducible repeat (first|refine blk_drewN ?_ _|refine blk_drew ?_|refine blk_alloc ?_ _));refine blk_put (cs:=#[.string ⟨#[]⟩,.int .i64 0,.int .i64 0,.string ⟨#[]⟩,.string ⟨#[]⟩]) ?_ 0 _ rfl;(with_reducible repeat (first|refine blk_drewN ?_ _|refine blk_drew ?_|refine blk_alloc ?_ _));exact hz2) Try.underlying28 rfl (by kernel_rfl)) rfl ?_
   exact ⟨by first | rfl | simp,by repeat (first|exact HB.out|refine below_set ?_ (by omega)|apply below_alloc|apply pw_below_drewN|apply below_drew1)⟩
 ·rw [if_neg hsz] at h
  cases h

-- NOT PRINTED: function 24 (table_Table_Get)

-- NOT PRINTED: function 26 (table_Table_Len)

-- NOT PRINTED: function 27 (table_Table_Blocks)

-- NOT PRINTED: function 20 (incipitlaw17_begun)

/-! ### incipitref12_Less: function 36 -/
def incipitref12_Less.f (a0_0 : ByteArray) (a0_1 : Int) (a0_2 : Int) (a0_3 : ByteArray) (a0_4 : ByteArray) (a1_0 : ByteArray) (a1_1 : Int) (a1_2 : Int) (a1_3 : ByteArray) (a1_4 : ByteArray) : Option (Bool):=if a0_0.toList = a1_0.toList then (if a0_1 = a1_1 then (some (decide (a0_2 > a1_2))) else (some (decide (a0_1 > a1_1)))) else (some (Op.bytesLess a0_0.toList a1_0.toList))
set_option maxHeartbeats 80000000 in
set_option maxRecDepth 100000 in
theorem incipitref12_Less.calls (a0_0 : ByteArray) (a0_1 : Int) (a0_2 : Int) (a0_3 : ByteArray) (a0_4 : ByteArray) (a1_0 : ByteArray) (a1_1 : Int) (a1_2 : Int) (a1_3 : ByteArray) (a1_4 : ByteArray) (r : Bool) (w : World) (h : incipitref12_Less.f a0_0 a0_1 a0_2 a0_3 a0_4 a1_0 a1_1 a1_2 a1_3 a1_4 = some r) :
  Calls Try.prog 36 #[.agg #[.string a0_0,.int .i64 a0_1,.int .i64 a0_2,.string a0_3,.string a0_4],.agg #[.string a1_0,.int .i64 a1_1,.int .i64 a1_2,.string a1_3,.string a1_4]] w fun e w'=>e = .returned (.bool r)∧Below w.heap.size w w':=by
 have hu28 := Try.underlying28
 have HB := Aside0.mk (Below.refl w.heap.size w)
 have H : (if a0_0.toList = a1_0.toList then (if a0_1 = a1_1 then (some (decide (a0_2 > a1_2))) else (some (decide (a0_1 > a1_1)))) else (some (Op.bytesLess a0_0.toList a1_0.toList))) = some r:=h
 clear h
 by_cases c3 : a0_0.toList = a1_0.toList
 ·rw [if_pos c3] at H
  have c3b0 : (a0_0.toList == a1_0.toList) = true := beq_iff_eq.mpr c3
  have c3b1 : (a0_0.toList != a1_0.toList) = false := bne_eq_false_iff_eq.mpr c3
  clear c3
  by_cases c4 : a0_1 = a1_1
  ·rw [if_pos c4] at H
   have c4b0 : (a0_1 == a1_1) = true := beq_iff_eq.mpr c4
   have c4b1 : (a0_1 != a1_1) = false := bne_eq_false_iff_eq.mpr c4
   clear c4
   obtain rfl := Option.some.inj H
   simp only [Option.some.injEq, Prod.mk.injEq] at H
   obtain ⟨rfl⟩ := H
   go_enter Try.func36, Try.ntmps36
   go_wp2_with (first|((with_reducible refine gate_dst (N:=2) rfl ?_);refine box_event ?hg (N:=2) ?hd (cs:=#[.string a0_0,.int .i64 a0_1,.int .i64 a0_2,.string a0_3,.string a0_4]) (t:=28) ?hr ?_;(case hd=>rfl);(case hg=>rfl);(case hr=>first|(go_simp;done)|(go_simp;rfl));intro gb237 hg w5 hbox hb;have n0_:=Aside0.mk (below_step (by repeat (first|(with_reducible first|exact HB.out|apply below_alloc|apply pw_below_drewN|apply below_drew1)|exact HB.out)) hb);have n1_:=Aside0.mk (hbox);have n2_:=Aside0.mk ((by rw [hg];exact (below_size (by repeat (first|(with_reducible first|exact HB.out|apply below_alloc|apply pw_below_drewN|apply below_drew1)|exact HB.out))) : w.heap.size ≤ gb237));have n3_:=Aside0.mk ((by rw [hg];exact (below_size (by repeat (first|(with_reducible first|exact HB.out|apply below_alloc|apply pw_below_drewN|apply below_drew1)|exact HB.out))) : w.heap.size ≤ gb237));clear HB;have HB:=n0_;have BK237:=n1_;have GW237:=n2_;have GE237:=n3_;clear n0_ n1_ n2_ n3_;clear hb hbox hg)|((with_reducible refine gate_dst (N:=3) rfl ?_);refine box_event ?hg (N:=3) ?hd (cs:=#[.string a1_0,.int .i64 a1_1,.int .i64 a1_2,.string a1_3,.string a1_4]) (t:=28) ?hr ?_;(case hd=>rfl);(case hg=>rfl);(case hr=>first|(go_simp;done)|(go_simp;rfl));intro gb238 hg w6 hbox hb;have n0_:=Aside0.mk (blk_below (g:=gb237) (o:=.cells #[.string a0_0,.int .i64 a0_1,.int .i64 a0_2,.string a0_3,.string a0_4] 28 (0,0)) (by (with_reducible repeat (first|refine blk_drewN ?_ _|refine blk_drew ?_|refine blk_alloc ?_ _));exact BK237.out) hb);have n1_:=Aside0.mk (below_step (by repeat (first|(with_reducible first|exact HB.out|apply below_alloc|apply pw_below_drewN|apply below_drew1|refine below_set ?_ GE237.out)|exact HB.out)) hb);have n2_:=Aside0.mk (hbox);have n3_:=Aside0.mk ((by rw [hg];exact (below_size (by repeat (first|(with_reducible first|exact HB.out|apply below_alloc|apply pw_below_drewN|apply below_drew1|refine below_set ?_ GE237.out)|exact HB.out))) : w.heap.size ≤ gb238));have n4_:=Aside0.mk ((by rw [hg];exact (below_size (by repeat (first|(with_reducible first|exact HB.out|apply below_alloc|apply pw_below_drewN|apply below_drew1|refine below_set ?_ GE237.out)|exact HB.out))) : w.heap.size ≤ gb238));have n5_:=Aside0.mk ((by rw [hg];exact Nat.ne_of_lt (blk_lt (g:=gb237) (o:=.cells #[.string a0_0,.int .i64 a0_1,.int .i64 a0_2,.string a0_3,.string a0_4] 28 (0,0)) (by (with_reducible repeat (first|refine blk_drewN ?_ _|refine blk_drew ?_|refine blk_alloc ?_ _));exact BK237.out)) : gb237 ≠ gb238));have n6_:=Aside0.mk ((by rw [hg];exact Nat.ne_of_gt (blk_lt (g:=gb237) (o:=.cells #[.string a0_0,.int .i64 a0_1,.int .i64 a0_2,.string a0_3,.string a0_4] 28 (0,0)) (by (with_reducible repeat (first|refine blk_drewN ?_ _|refine blk_drew ?_|refine blk_alloc ?_ _));exact BK237.out)) : gb238 ≠ gb237));clear BK237;clear HB;have BK237:=n0_;have HB:=n1_;have BK238:=n2_;have GW238:=n3_;have GE238:=n4_;have NB237_238:=n5_;have NB238_237:=n6_;clear n0_ n1_ n2_ n3_ n4_ n5_ n6_;clear hb hbox hg;have hnb7:=NB237_238.out;have hnc7:=NB238_237.out;have hcz8_0 : w6.cell? ⟨gb237,0,none⟩ = some (.string a0_0):=(blk_cell BK237.out 0).trans rfl;have hcz8_1 : w6.cell? ⟨gb237,1,none⟩ = some (.int .i64 a0_1):=(blk_cell BK237.out 1).trans rfl;have hcz8_2 : w6.cell? ⟨gb237,2,none⟩ = some (.int .i64 a0_2):=(blk_cell BK237.out 2).trans rfl;have hcz8_3 : w6.cell? ⟨gb237,3,none⟩ = some (.string a0_3):=(blk_cell BK237.out 3).trans rfl;have hcz8_4 : w6.cell? ⟨gb237,4,none⟩ = some (.string a0_4):=(blk_cell BK237.out 4).trans rfl;have hfz8_0:=blk_frozen BK237.out 0;have hfz8_1:=blk_frozen BK237.out 1;have hfz8_2:=blk_frozen BK237.out 2;have hfz8_3:=blk_frozen BK237.out 3;have hfz8_4:=blk_frozen BK237.out 4;have hcz9_0 : w6.cell? ⟨gb238,0,none⟩ = some (.string a1_0):=(blk_cell BK238.out 0).trans rfl;have hcz9_1 : w6.cell? ⟨gb238,1,none⟩ = some (.int .i64 a1_1):=(blk_cell BK238.out 1).trans rfl;have hcz9_2 : w6.cell? ⟨gb238,2,none⟩ = some (.int .i64 a1_2):=(blk_cell BK238.out 2).trans rfl;have hcz9_3 : w6.cell? ⟨gb238,3,none⟩ = some (.string a1_3):=(blk_cell BK238.out 3).trans rfl;have hcz9_4 : w6.cell? ⟨gb238,4,none⟩ = some (.string a1_4):=(blk_cell BK238.out 4).trans rfl;have hfz9_0:=blk_frozen BK238.out 0;have hfz9_1:=blk_frozen BK238.out 1;have hfz9_2:=blk_frozen BK238.out 2;have hfz9_3:=blk_frozen BK238.out 3;have hfz9_4:=blk_frozen BK238.out 4))
   go_ret
   exact ⟨by first | rfl|(simp [errW_none,errW_some] <;> rfl)|(simp [*,errW_none,errW_some] <;> rfl),by repeat (first|(with_reducible first|exact HB.out|apply below_alloc|apply pw_below_drewN|apply below_drew1|refine below_set ?_ GE237.out|refine below_set ?_ GE238.out)|exact HB.out)⟩
  ·rw [if_neg c4] at H
   have c4b0 : (a0_1 == a1_1) = false := beq_eq_false_iff_ne.mpr c4
   have c4b1 : (a0_1 != a1_1) = true := bne_iff_ne.mpr c4
   obtain rfl := Option.some.inj H
   simp only [Option.some.injEq, Prod.mk.injEq] at H
   obtain ⟨rfl⟩ := H
   go_enter Try.func36, Try.ntmps36
   go_wp2_with (first|((with_reducible refine gate_dst (N:=2) rfl ?_);refine box_event ?hg (N:=2) ?hd (cs:=#[.string a0_0,.int .i64 a0_1,.int .i64 a0_2,.string a0_3,.string a0_4]) (t:=28) ?hr ?_;(case hd=>rfl);(case hg=>rfl);(case hr=>first|(go_simp;done)|(go_simp;rfl));intro gb237 hg w10 hbox hb;have n0_:=Aside0.mk (below_step (by repeat (first|(with_reducible first|exact HB.out|apply below_alloc|apply pw_below_drewN|apply below_drew1)|exact HB.out)) hb);have n1_:=Aside0.mk (hbox);have n2_:=Aside0.mk ((by rw [hg];exact (below_size (by repeat (first|(with_reducible first|exact HB.out|apply below_alloc|apply pw_below_drewN|apply below_drew1)|exact HB.out))) : w.heap.size ≤ gb237));have n3_:=Aside0.mk ((by rw [hg];exact (below_size (by repeat (first|(with_reducible first|exact HB.out|apply below_alloc|apply pw_below_drewN|apply below_drew1)|exact HB.out))) : w.heap.size ≤ gb237));clear HB;have HB:=n0_;have BK237:=n1_;have GW237:=n2_;have GE237:=n3_;clear n0_ n1_ n2_ n3_;clear hb hbox hg)|((with_reducible refine gate_dst (N:=3) rfl ?_);refine box_event ?hg (N:=3) ?hd (cs:=#[.string a1_0,.int .i64 a1_1,.int .i64 a1_2,.string a1_3,.string a1_4]) (t:=28) ?hr ?_;(case hd=>rfl);(case hg=>rfl);(case hr=>first|(go_simp;done)|(go_simp;rfl));intro gb238 hg w11 hbox hb;have n0_:=Aside0.mk (blk_below (g:=gb237) (o:=.cells #[.string a0_0,.int .i64 a0_1,.int .i64 a0_2,.string a0_3,.string a0_4] 28 (0,0)) (by (with_reducible repeat (first|refine blk_drewN ?_ _|refine blk_drew ?_|refine blk_alloc ?_ _));exact BK237.out) hb);have n1_:=Aside0.mk (below_step (by repeat (first|(with_reducible first|exact HB.out|apply below_alloc|apply pw_below_drewN|apply below_drew1|refine below_set ?_ GE237.out)|exact HB.out)) hb);have n2_:=Aside0.mk (hbox);have n3_:=Aside0.mk ((by rw [hg];exact (below_size (by repeat (first|(with_reducible first|exact HB.out|apply below_alloc|apply pw_below_drewN|apply below_drew1|refine below_set ?_ GE237.out)|exact HB.out))) : w.heap.size ≤ gb238));have n4_:=Aside0.mk ((by rw [hg];exact (below_size (by repeat (first|(with_reducible first|exact HB.out|apply below_alloc|apply pw_below_drewN|apply below_drew1|refine below_set ?_ GE237.out)|exact HB.out))) : w.heap.size ≤ gb238));have n5_:=Aside0.mk ((by rw [hg];exact Nat.ne_of_lt (blk_lt (g:=gb237) (o:=.cells #[.string a0_0,.int .i64 a0_1,.int .i64 a0_2,.string a0_3,.string a0_4] 28 (0,0)) (by (with_reducible repeat (first|refine blk_drewN ?_ _|refine blk_drew ?_|refine blk_alloc ?_ _));exact BK237.out)) : gb237 ≠ gb238));have n6_:=Aside0.mk ((by rw [hg];exact Nat.ne_of_gt (blk_lt (g:=gb237) (o:=.cells #[.string a0_0,.int .i64 a0_1,.int .i64 a0_2,.string a0_3,.string a0_4] 28 (0,0)) (by (with_reducible repeat (first|refine blk_drewN ?_ _|refine blk_drew ?_|refine blk_alloc ?_ _));exact BK237.out)) : gb238 ≠ gb237));clear BK237;clear HB;have BK237:=n0_;have HB:=n1_;have BK238:=n2_;have GW238:=n3_;have GE238:=n4_;have NB237_238:=n5_;have NB238_237:=n6_;clear n0_ n1_ n2_ n3_ n4_ n5_ n6_;clear hb hbox hg;have hnb12:=NB237_238.out;have hnc12:=NB238_237.out;have hcz13_0 : w11.cell? ⟨gb237,0,none⟩ = some (.string a0_0):=(blk_cell BK237.out 0).trans rfl;have hcz13_1 : w11.cell? ⟨gb237,1,none⟩ = some (.int .i64 a0_1):=(blk_cell BK237.out 1).trans rfl;have hcz13_2 : w11.cell? ⟨gb237,2,none⟩ = some (.int .i64 a0_2):=(blk_cell BK237.out 2).trans rfl;have hcz13_3 : w11.cell? ⟨gb237,3,none⟩ = some (.string a0_3):=(blk_cell BK237.out 3).trans rfl;have hcz13_4 : w11.cell? ⟨gb237,4,none⟩ = some (.string a0_4):=(blk_cell BK237.out 4).trans rfl;have hfz13_0:=blk_frozen BK237.out 0;have hfz13_1:=blk_frozen BK237.out 1;have hfz13_2:=blk_frozen BK237.out 2;have hfz13_3:=blk_frozen BK237.out 3;have hfz13_4:=blk_frozen BK237.out 4;have hcz14_0 : w11.cell? ⟨gb238,0,none⟩ = some (.string a1_0):=(blk_cell BK238.out 0).trans rfl;have hcz14_1 : w11.cell? ⟨gb238,1,none⟩ = some (.int .i64 a1_1):=(blk_cell BK238.out 1).trans rfl;have hcz14_2 : w11.cell? ⟨gb238,2,none⟩ = some (.int .i64 a1_2):=(blk_cell BK238.out 2).trans rfl;have hcz14_3 : w11.cell? ⟨gb238,3,none⟩ = some (.string a1_3):=(blk_cell BK238.out 3).trans rfl;have hcz14_4 : w11.cell? ⟨gb238,4,none⟩ = some (.string a1_4):=(blk_cell BK238.out 4).trans rfl;have hfz14_0:=blk_frozen BK238.out 0;have hfz14_1:=blk_frozen BK238.out 1;have hfz14_2:=blk_frozen BK238.out 2;have hfz14_3:=blk_frozen BK238.out 3;have hfz14_4:=blk_frozen BK238.out 4))
   go_ret
   exact ⟨by first | rfl|(simp [errW_none,errW_some] <;> rfl)|(simp [*,errW_none,errW_some] <;> rfl),by repeat (first|(with_reducible first|exact HB.out|apply below_alloc|apply pw_below_drewN|apply below_drew1|refine below_set ?_ GE237.out|refine below_set ?_ GE238.out)|exact HB.out)⟩
 ·rw [if_neg c3] at H
  have c3b0 : (a0_0.toList == a1_0.toList) = false := beq_eq_false_iff_ne.mpr c3
  have c3b1 : (a0_0.toList != a1_0.toList) = true := bne_iff_ne.mpr c3
  obtain rfl := Option.some.inj H
  simp only [Option.some.injEq, Prod.mk.injEq] at H
  obtain ⟨rfl⟩ := H
  go_enter Try.func36, Try.ntmps36
  go_wp2_with (first|((with_reducible refine gate_dst (N:=2) rfl ?_);refine box_event ?hg (N:=2) ?hd (cs:=#[.string a0_0,.int .i64 a0_1,.int .i64 a0_2,.string a0_3,.string a0_4]) (t:=28) ?hr ?_;(case hd=>rfl);(case hg=>rfl);(case hr=>first|(go_simp;done)|(go_simp;rfl));intro gb237 hg w15 hbox hb;have n0_:=Aside0.mk (below_step (by repeat (first|(with_reducible first|exact HB.out|apply below_alloc|apply pw_below_drewN|apply below_drew1)|exact HB.out)) hb);have n1_:=Aside0.mk (hbox);have n2_:=Aside0.mk ((by rw [hg];exact (below_size (by repeat (first|(with_reducible first|exact HB.out|apply below_alloc|apply pw_below_drewN|apply below_drew1)|exact HB.out))) : w.heap.size ≤ gb237));have n3_:=Aside0.mk ((by rw [hg];exact (below_size (by repeat (first|(with_reducible first|exact HB.out|apply below_alloc|apply pw_below_drewN|apply below_drew1)|exact HB.out))) : w.heap.size ≤ gb237));clear HB;have HB:=n0_;have BK237:=n1_;have GW237:=n2_;have GE237:=n3_;clear n0_ n1_ n2_ n3_;clear hb hbox hg)|((with_reducible refine gate_dst (N:=3) rfl ?_);refine box_event ?hg (N:=3) ?hd (cs:=#[.string a1_0,.int .i64 a1_1,.int .i64 a1_2,.string a1_3,.string a1_4]) (t:=28) ?hr ?_;(case hd=>rfl);(case hg=>rfl);(case hr=>first|(go_simp;done)|(go_simp;rfl));intro gb238 hg w16 hbox hb;have n0_:=Aside0.mk (blk_below (g:=gb237) (o:=.cells #[.string a0_0,.int .i64 a0_1,.int .i64 a0_2,.string a0_3,.string a0_4] 28 (0,0)) (by (with_reducible repeat (first|refine blk_drewN ?_ _|refine blk_drew ?_|refine blk_alloc ?_ _));exact BK237.out) hb);have n1_:=Aside0.mk (below_step (by repeat (first|(with_reducible first|exact HB.out|apply below_alloc|apply pw_below_drewN|apply below_drew1|refine below_set ?_ GE237.out)|exact HB.out)) hb);have n2_:=Aside0.mk (hbox);have n3_:=Aside0.mk ((by rw [hg];exact (below_size (by repeat (first|(with_reducible first|exact HB.out|apply below_alloc|apply pw_below_drewN|apply below_drew1|refine below_set ?_ GE237.out)|exact HB.out))) : w.heap.size ≤ gb238));have n4_:=Aside0.mk ((by rw [hg];exact (below_size (by repeat (first|(with_reducible first|exact HB.out|apply below_alloc|apply pw_below_drewN|apply below_drew1|refine below_set ?_ GE237.out)|exact HB.out))) : w.heap.size ≤ gb238));have n5_:=Aside0.mk ((by rw [hg];exact Nat.ne_of_lt (blk_lt (g:=gb237) (o:=.cells #[.string a0_0,.int .i64 a0_1,.int .i64 a0_2,.string a0_3,.string a0_4] 28 (0,0)) (by (with_reducible repeat (first|refine blk_drewN ?_ _|refine blk_drew ?_|refine blk_alloc ?_ _));exact BK237.out)) : gb237 ≠ gb238));have n6_:=Aside0.mk ((by rw [hg];exact Nat.ne_of_gt (blk_lt (g:=gb237) (o:=.cells #[.string a0_0,.int .i64 a0_1,.int .i64 a0_2,.string a0_3,.string a0_4] 28 (0,0)) (by (with_reducible repeat (first|refine blk_drewN ?_ _|refine blk_drew ?_|refine blk_alloc ?_ _));exact BK237.out)) : gb238 ≠ gb237));clear BK237;clear HB;have BK237:=n0_;have HB:=n1_;have BK238:=n2_;have GW238:=n3_;have GE238:=n4_;have NB237_238:=n5_;have NB238_237:=n6_;clear n0_ n1_ n2_ n3_ n4_ n5_ n6_;clear hb hbox hg;have hnb17:=NB237_238.out;have hnc17:=NB238_237.out;have hcz18_0 : w16.cell? ⟨gb237,0,none⟩ = some (.string a0_0):=(blk_cell BK237.out 0).trans rfl;have hcz18_1 : w16.cell? ⟨gb237,1,none⟩ = some (.int .i64 a0_1):=(blk_cell BK237.out 1).trans rfl;have hcz18_2 : w16.cell? ⟨gb237,2,none⟩ = some (.int .i64 a0_2):=(blk_cell BK237.out 2).trans rfl;have hcz18_3 : w16.cell? ⟨gb237,3,none⟩ = some (.string a0_3):=(blk_cell BK237.out 3).trans rfl;have hcz18_4 : w16.cell? ⟨gb237,4,none⟩ = some (.string a0_4):=(blk_cell BK237.out 4).trans rfl;have hfz18_0:=blk_frozen BK237.out 0;have hfz18_1:=blk_frozen BK237.out 1;have hfz18_2:=blk_frozen BK237.out 2;have hfz18_3:=blk_frozen BK237.out 3;have hfz18_4:=blk_frozen BK237.out 4;have hcz19_0 : w16.cell? ⟨gb238,0,none⟩ = some (.string a1_0):=(blk_cell BK238.out 0).trans rfl;have hcz19_1 : w16.cell? ⟨gb238,1,none⟩ = some (.int .i64 a1_1):=(blk_cell BK238.out 1).trans rfl;have hcz19_2 : w16.cell? ⟨gb238,2,none⟩ = some (.int .i64 a1_2):=(blk_cell BK238.out 2).trans rfl;have hcz19_3 : w16.cell? ⟨gb238,3,none⟩ = some (.string a1_3):=(blk_cell BK238.out 3).trans rfl;have hcz19_4 : w16.cell? ⟨gb238,4,none⟩ = some (.string a1_4):=(blk_cell BK238.out 4).trans rfl;have hfz19_0:=blk_frozen BK238.out 0;have hfz19_1:=blk_frozen BK238.out 1;have hfz19_2:=blk_frozen BK238.out 2;have hfz19_3:=blk_frozen BK238.out 3;have hfz19_4:=blk_frozen BK238.out 4))
  go_ret
  exact ⟨by first | rfl|(simp [errW_none,errW_some] <;> rfl)|(simp [*,errW_none,errW_some] <;> rfl),by repeat (first|(with_reducible first|exact HB.out|apply below_alloc|apply pw_below_drewN|apply below_drew1|refine below_set ?_ GE237.out|refine below_set ?_ GE238.out)|exact HB.out)⟩

/-! ### incipitref12_Sorted: function 21 -/
def incipitref12_Sorted.l0 : Nat → List (S28) → Int → Option (Bool)
 | 0, _, _ => none
 | k + 1,x0,x3=>if x3 < (x0.length : Int) then (if 0 ≤ (wrap64 (x3 - 1)) then (if (wrap64 (x3 - 1)) < (x0.length : Int) then (if 0 ≤ x3 then ((incipitref12_Less.f ((rd_T28 x0 (wrap64 (x3 - 1))).f0) ((rd_T28 x0 (wrap64 (x3 - 1))).f1) ((rd_T28 x0 (wrap64 (x3 - 1))).f2) ((rd_T28 x0 (wrap64 (x3 - 1))).f3) ((rd_T28 x0 (wrap64 (x3 - 1))).f4) ((rd_T28 x0 x3).f0) ((rd_T28 x0 x3).f1) ((rd_T28 x0 x3).f2) ((rd_T28 x0 x3).f3) ((rd_T28 x0 x3).f4)).bind fun t241=>(if t241 = true then (incipitref12_Sorted.l0 k x0 (wrap64 (x3 + 1))) else (some false))) else (none)) else (none)) else (none)) else (some true)
def incipitref12_Sorted.f (k : Nat) (l0 : List (S28)) : Option (Bool) := incipitref12_Sorted.l0 k l0 1
theorem incipitref12_Sorted.mono_l : ∀ k,(∀ y0 y1,LeO (incipitref12_Sorted.l0 k y0 y1) (incipitref12_Sorted.l0 (k + 1) y0 y1))
 | 0 => fun _ _ r h => by simp [incipitref12_Sorted.l0] at h
 | k + 1 => by
  have ih0 := incipitref12_Sorted.mono_l k
  ·intro y0 y1
   unfold incipitref12_Sorted.l0
   repeat' first
  |(with_reducible exact ih0 _ _)
  |(with_reducible exact LeO.refl _)
  |(with_reducible exact LeO.none _)
  |(with_reducible refine LeO.ite ?_ ?_)
  |(with_reducible refine LeO.bind ?_ (fun _ => ?_))
  |exact ih0 _ _
  |exact LeO.none _
  |refine LeO.ite ?_ ?_
  |refine LeO.bind ?_ (fun _ => ?_)
theorem incipitref12_Sorted.mono : ∀ a0 k, LeO (incipitref12_Sorted.f k a0) (incipitref12_Sorted.f (k + 1) a0) := by
 intro a0 k
 have ih0 := incipitref12_Sorted.mono_l k
 unfold incipitref12_Sorted.f
 repeat' first
  |(with_reducible exact ih0 _ _)
  |(with_reducible exact LeO.refl _)
  |(with_reducible exact LeO.none _)
  |(with_reducible refine LeO.ite ?_ ?_)
  |(with_reducible refine LeO.bind ?_ (fun _ => ?_))
  |exact ih0 _ _
  |exact LeO.none _
  |refine LeO.ite ?_ ?_
  |refine LeO.bind ?_ (fun _ => ?_)
def incipitref12_Sorted.T4 : Bool × List (List Nat × List Nat):=(true,[([],[]),([],[]),([1],[1]),([0,2],[0,2]),([3],[3]),([],[]),([],[]),([5,6],[5,6]),([7],[7]),([4,8],[4,8]),([9],[9])])
def incipitref12_Sorted.B4 : List Nat := [0, 0, 2, 7, 15, 0, 0, 96, 224, 511, 1023]
theorem incipitref12_Sorted.tab4 : rtab .any (opsOf Try.f21 4) = incipitref12_Sorted.T4 := by kernel_rfl
theorem incipitref12_Sorted.bits4 : waitsOk incipitref12_Sorted.T4.2 incipitref12_Sorted.B4 = true := by kernel_rfl
set_option maxHeartbeats 80000000 in
set_option maxRecDepth 100000 in
theorem incipitref12_Sorted.calls (k : Nat) (A0 : Option Addr) (c0 : Nat) (l0 : List (S28)) (r : Bool) (w : World) (hr0 : Kd.C k28 w A0 l0.length l0) (hc0 : l0.length ≤ c0) (h : incipitref12_Sorted.f k l0 = some r) :
  Calls Try.prog 21 #[.slice A0 l0.length c0] w fun e w' => e = .returned (.bool r) ∧ Below w.heap.size w w' := by
 have hu28 := Try.underlying28
 have HR0 := Aside0.mk hr0
 have HC0 := Aside0.mk hc0
 clear hr0 hc0
 have HB := Aside0.mk (Below.refl w.heap.size w)
 have H : (incipitref12_Sorted.l0 k l0 1) = some r := h
 clear h
 have H' := Aside0.mk H
 clear H
 go_enter Try.func21, Try.ntmps21
 go_wp2
 go_loopg [3] k (fun kq v3 w'=>∃ (x3_1 : Int),v3 = .int .i64 x3_1∧Aside0 (incipitref12_Sorted.l0 kq l0 x3_1 = some r)∧Aside0 (kq ≤ k)∧Aside0 (Below w.heap.size w w'))
 case atStart=>exact ⟨(1),(by first | rfl|(simp;done)|(simp [*];done)),H',⟨Nat.le_refl _⟩,⟨by repeat (first|(with_reducible first|exact HB.out|apply below_alloc|apply pw_below_drewN|apply below_drew1)|exact HB.out)⟩⟩
 case round =>
  clear H'
  obtain ⟨x3_1, rfl, HA, HK1, HB⟩ := hrel
  cases gk with
  | zero => exact absurd HA.out (by simp [incipitref12_Sorted.l0])
  | succ k1 =>
   have H := HA.out
   clear HA
   simp only [incipitref12_Sorted.l0] at H
   by_cases c2 : x3_1 < (l0.length : Int)
   ·rw [if_pos c2] at H
    have c2b0 : decide (x3_1 < (l0.length : Int)) = true := decide_eq_true c2
    clear c2
    obtain ⟨ji3, hji3⟩ : ∃ j_ : Int, (wrap64 (x3_1 - 1)) = j_ := ⟨_, rfl⟩
    replace H : (if 0 ≤ (ji3) then (if (ji3) < (l0.length : Int) then (if 0 ≤ x3_1 then ((incipitref12_Less.f ((rd_T28 l0 (ji3)).f0) ((rd_T28 l0 (ji3)).f1) ((rd_T28 l0 (ji3)).f2) ((rd_T28 l0 (ji3)).f3) ((rd_T28 l0 (ji3)).f4) ((rd_T28 l0 x3_1).f0) ((rd_T28 l0 x3_1).f1) ((rd_T28 l0 x3_1).f2) ((rd_T28 l0 x3_1).f3) ((rd_T28 l0 x3_1).f4)).bind fun t241=>(if t241 = true then (incipitref12_Sorted.l0 k1 l0 (wrap64 (x3_1 + 1))) else (some false))) else (none)) else (none)) else (none)) = some r:=by first|(rw [hji3] at H;exact H)|(simp only [hji3] at H ⊢;exact H)
    have hji3w : (IntKind.i64.wrap (x3_1 - 1)) = ji3 := (i64_w _).trans hji3
    by_cases c4 : 0 ≤ (ji3)
    ·rw [if_pos c4] at H
     have c4b0 : decide (0 ≤ (ji3)) = true := decide_eq_true c4
     clear c4
     by_cases c5 : (ji3) < (l0.length : Int)
     ·rw [if_pos c5] at H
      have c5b0 : decide ((ji3) < (l0.length : Int)) = true := decide_eq_true c5
      clear c5
      by_cases c6 : 0 ≤ x3_1
      ·rw [if_pos c6] at H
       have c6b0 : decide (0 ≤ x3_1) = true := decide_eq_true c6
       clear c6
       replace H := Option.bind_eq_some_iff.mp H
       obtain ⟨t241, A70, H⟩ := H
       replace H : (if t241 = true then (incipitref12_Sorted.l0 k1 l0 (wrap64 (x3_1 + 1))) else (some false)) = some r:=H
       have A7 := Aside0.mk A70
       clear A70
       by_cases c8 : t241 = true
       ·subst c8
        have H1 : (incipitref12_Sorted.l0 k1 l0 (wrap64 (x3_1 + 1))) = some r := by rw [if_pos rfl] at H; exact H
        clear H
        have H := H1
        clear H1
        have H' := Aside0.mk H
        clear H
        try go_wp2
        have n0_ := Aside0.mk (below_drew1 HB.out)
        clear HB
        have HB := n0_
        clear n0_
        have p239 : 0 ≤ ((ji3) : Int) := of_decide_eq_true (by first|(with_reducible assumption) | assumption)
        have q239 : (ji3) < (l0.length : Int) := of_decide_eq_true (by first|(with_reducible assumption) | assumption)
        obtain ⟨ad239, e239, hx239_0, hx239_1, hx239_2, hx239_3, hx239_4⟩ := at_T28 HR0.out (ji3) p239 q239
        have hw239_4 := hx239_4
        have hw239_3 := hx239_3
        have hw239_2 := hx239_2
        have hw239_1 := hx239_1
        have hw239_0 := hx239_0
        cases e239
        replace hx239_0 := (HB.out.cell (World.block_lt_of_cell? w _ hx239_0)).trans hx239_0
        replace hx239_1 := (HB.out.cell (World.block_lt_of_cell? w _ hx239_1)).trans hx239_1
        replace hx239_2 := (HB.out.cell (World.block_lt_of_cell? w _ hx239_2)).trans hx239_2
        replace hx239_3 := (HB.out.cell (World.block_lt_of_cell? w _ hx239_3)).trans hx239_3
        replace hx239_4 := (HB.out.cell (World.block_lt_of_cell? w _ hx239_4)).trans hx239_4
        replace p239 := eq_true p239
        replace q239 := eq_true q239
        have p240 : 0 ≤ (x3_1 : Int) := of_decide_eq_true (by first|(with_reducible assumption) | assumption)
        have q240 : x3_1 < (l0.length : Int) := of_decide_eq_true (by first|(with_reducible assumption) | assumption)
        obtain ⟨ad240, e240, hx240_0, hx240_1, hx240_2, hx240_3, hx240_4⟩ := at_T28 HR0.out x3_1 p240 q240
        have hw240_4 := hx240_4
        have hw240_3 := hx240_3
        have hw240_2 := hx240_2
        have hw240_1 := hx240_1
        have hw240_0 := hx240_0
        obtain rfl : ad239 = ad240 := (by injection e240)
        replace hx240_0 := (HB.out.cell (World.block_lt_of_cell? w _ hx240_0)).trans hx240_0
        replace hx240_1 := (HB.out.cell (World.block_lt_of_cell? w _ hx240_1)).trans hx240_1
        replace hx240_2 := (HB.out.cell (World.block_lt_of_cell? w _ hx240_2)).trans hx240_2
        replace hx240_3 := (HB.out.cell (World.block_lt_of_cell? w _ hx240_3)).trans hx240_3
        replace hx240_4 := (HB.out.cell (World.block_lt_of_cell? w _ hx240_4)).trans hx240_4
        replace p240 := eq_true p240
        replace q240 := eq_true q240
        refine start_ (n:=11) (S:=fun w'=>w'.cell? (ad239.add (((ji3)).toNat * 5)) = some (.string ((rd_T28 l0 (ji3)).f0))∧w'.cell? ⟨(ad239.add (((ji3)).toNat * 5)).block,(ad239.add (((ji3)).toNat * 5)).off + 1,none⟩ = some (.int .i64 ((rd_T28 l0 (ji3)).f1))∧w'.cell? ⟨(ad239.add (((ji3)).toNat * 5)).block,(ad239.add (((ji3)).toNat * 5)).off + 2,none⟩ = some (.int .i64 ((rd_T28 l0 (ji3)).f2))∧w'.cell? ⟨(ad239.add (((ji3)).toNat * 5)).block,(ad239.add (((ji3)).toNat * 5)).off + 3,none⟩ = some (.string ((rd_T28 l0 (ji3)).f3))∧w'.cell? ⟨(ad239.add (((ji3)).toNat * 5)).block,(ad239.add (((ji3)).toNat * 5)).off + 4,none⟩ = some (.string ((rd_T28 l0 (ji3)).f4))∧w'.cell? (ad239.add ((x3_1).toNat * 5)) = some (.string ((rd_T28 l0 x3_1).f0))∧w'.cell? ⟨(ad239.add ((x3_1).toNat * 5)).block,(ad239.add ((x3_1).toNat * 5)).off + 1,none⟩ = some (.int .i64 ((rd_T28 l0 x3_1).f1))∧w'.cell? ⟨(ad239.add ((x3_1).toNat * 5)).block,(ad239.add ((x3_1).toNat * 5)).off + 2,none⟩ = some (.int .i64 ((rd_T28 l0 x3_1).f2))∧w'.cell? ⟨(ad239.add ((x3_1).toNat * 5)).block,(ad239.add ((x3_1).toNat * 5)).off + 3,none⟩ = some (.string ((rd_T28 l0 x3_1).f3))∧w'.cell? ⟨(ad239.add ((x3_1).toNat * 5)).block,(ad239.add ((x3_1).toNat * 5)).off + 4,none⟩ = some (.string ((rd_T28 l0 x3_1).f4))) (ds:=[]) #[false,false,false,false,false,false,false,false,false,false,false] (by kernel_rfl) rfl rfl ⟨((HB.out.cell (World.block_lt_of_cell? w _ hw239_0)).trans hw239_0),((HB.out.cell (World.block_lt_of_cell? w _ hw239_1)).trans hw239_1),((HB.out.cell (World.block_lt_of_cell? w _ hw239_2)).trans hw239_2),((HB.out.cell (World.block_lt_of_cell? w _ hw239_3)).trans hw239_3),((HB.out.cell (World.block_lt_of_cell? w _ hw239_4)).trans hw239_4),((HB.out.cell (World.block_lt_of_cell? w _ hw240_0)).trans hw240_0),((HB.out.cell (World.block_lt_of_cell? w _ hw240_1)).trans hw240_1),((HB.out.cell (World.block_lt_of_cell? w _ hw240_2)).trans hw240_2),((HB.out.cell (World.block_lt_of_cell? w _ hw240_3)).trans hw240_3),((HB.out.cell (World.block_lt_of_cell? w _ hw240_4)).trans hw240_4)⟩ (fun hHeld=>?_);refine with_tabW incipitref12_Sorted.tab4 incipitref12_Sorted.bits4 (fun HT_ HW_=>?_)
        generalize wr.drew = w9 at HB hx239_0 hx239_1 hx239_2 hx239_3 hx239_4 hx240_0 hx240_1 hx240_2 hx240_3 hx240_4 hHeld ⊢
        refine pure_ (i:=0) (N:=some 10) (v:=?_) (a':=?_) #[true,false,false,false,false,false,false,false,false,false,false] rfl rfl (any_of HT_.out (by kernel_rfl)) (fun _ _ _ h=>h) (Or.inl ⟨by rfl,?_⟩) ?_ ?_
        rotate_left
        ·intro w'
         go_simp
         with_reducible rfl
        rotate_left
        ·simp only [Act.put, List.setIfInBounds_toArray, List.set_cons_zero, List.set_cons_succ, i64_w, i32_w]
         rfl
        refine pure_ (i:=1) (N:=some 11) (v:=?_) (a':=?_) #[true,true,false,false,false,false,false,false,false,false,false] rfl rfl (any_of HT_.out (by kernel_rfl)) (fun _ _ _ h=>h) (Or.inl ⟨by rfl,?_⟩) ?_ ?_
        rotate_left
        ·intro w'
         go_simp
         with_reducible rfl
        rotate_left
        ·simp only [Act.put, List.setIfInBounds_toArray, List.set_cons_zero, List.set_cons_succ, i64_w, i32_w]
         rfl
        refine pure_ (i:=2) (N:=some 12) (v:=?_) (a':=?_) #[true,true,true,false,false,false,false,false,false,false,false] rfl rfl (any_of HT_.out (by kernel_rfl)) (fun _ _ _ h=>h) (Or.inl ⟨by rfl,?_⟩) ?_ ?_
        rotate_left
        ·intro w'
         go_simp
         with_reducible rfl
        rotate_left
        ·simp only [Act.put, List.setIfInBounds_toArray, List.set_cons_zero, List.set_cons_succ, i64_w, i32_w]
         rfl
        refine pure_ (i:=3) (N:=some 13) (v:=?_) (a':=?_) #[true,true,true,true,false,false,false,false,false,false,false] rfl rfl (any_of HT_.out (by kernel_rfl)) (fun _ _ _ h=>h) (Or.inl ⟨by rfl,?_⟩) ?_ ?_
        rotate_left
        ·intro w'
         go_simp
         with_reducible rfl
        rotate_left
        ·simp only [Act.put, List.setIfInBounds_toArray, List.set_cons_zero, List.set_cons_succ, i64_w, i32_w]
         rfl
        refine pure_ (i:=5) (N:=some 15) (v:=?_) (a':=?_) #[true,true,true,true,false,true,false,false,false,false,false] rfl rfl (any_of HT_.out (by kernel_rfl)) (fun _ _ _ h=>h) (Or.inl ⟨by rfl,?_⟩) ?_ ?_
        rotate_left
        ·intro w'
         go_simp
         with_reducible rfl
        rotate_left
        ·simp only [Act.put, List.setIfInBounds_toArray, List.set_cons_zero, List.set_cons_succ, i64_w, i32_w]
         rfl
        refine pure_ (i:=6) (N:=some 16) (v:=?_) (a':=?_) #[true,true,true,true,false,true,true,false,false,false,false] rfl rfl (any_of HT_.out (by kernel_rfl)) (fun _ _ _ h=>h) (Or.inl ⟨by rfl,?_⟩) ?_ ?_
        rotate_left
        ·intro w'
         go_simp
         with_reducible rfl
        rotate_left
        ·simp only [Act.put, List.setIfInBounds_toArray, List.set_cons_zero, List.set_cons_succ, i64_w, i32_w]
         rfl
        refine pure_ (i:=7) (N:=some 17) (v:=?_) (a':=?_) #[true,true,true,true,false,true,true,true,false,false,false] rfl rfl (any_of HT_.out (by kernel_rfl)) (fun _ _ _ h=>h) (Or.inl ⟨by rfl,?_⟩) ?_ ?_
        rotate_left
        ·intro w'
         go_simp
         with_reducible rfl
        rotate_left
        ·simp only [Act.put, List.setIfInBounds_toArray, List.set_cons_zero, List.set_cons_succ, i64_w, i32_w]
         rfl
        refine take_ (i:=4) (N:=some 14) (v:=?_) (a':=?_) #[true,true,true,true,true,true,true,true,false,false,false] rfl rfl (take_ofW HT_.out HW_.out (by kernel_rfl)) (fun _ _ _ h=>h) (Or.inl ⟨by rfl,?_⟩) hHeld ?_ ?_
        rotate_left
        ·rintro w' ⟨s0, s1, s2, s3, s4, s5, s6, s7, s8, s9⟩
         go_simp
         with_reducible rfl
        rotate_left
        ·simp only [Act.put, List.setIfInBounds_toArray, List.set_cons_zero, List.set_cons_succ, i64_w, i32_w]
         rfl
        refine take_ (i:=8) (N:=some 18) (v:=?_) (a':=?_) #[true,true,true,true,true,true,true,true,true,false,false] rfl rfl (take_ofW HT_.out HW_.out (by kernel_rfl)) (fun _ _ _ h=>h) (Or.inl ⟨by rfl,?_⟩) hHeld ?_ ?_
        rotate_left
        ·rintro w' ⟨s0, s1, s2, s3, s4, s5, s6, s7, s8, s9⟩
         go_simp
         with_reducible rfl
        rotate_left
        ·simp only [Act.put, List.setIfInBounds_toArray, List.set_cons_zero, List.set_cons_succ, i64_w, i32_w]
         rfl
        refine one_ (i:=9) (N:=some 19) #[true,true,true,true,true,true,true,true,true,true,false] rfl rfl (one_of HT_.out (by kernel_rfl)) (by decide) (fun K hK=>?_)
        refine goes_ Try.func36 (by kernel_rfl) rfl #[.agg #[.string ((rd_T28 l0 (ji3)).f0),.int .i64 ((rd_T28 l0 (ji3)).f1),.int .i64 ((rd_T28 l0 (ji3)).f2),.string ((rd_T28 l0 (ji3)).f3),.string ((rd_T28 l0 (ji3)).f4)],.agg #[.string ((rd_T28 l0 x3_1).f0),.int .i64 ((rd_T28 l0 x3_1).f1),.int .i64 ((rd_T28 l0 x3_1).f2),.string ((rd_T28 l0 x3_1).f3),.string ((rd_T28 l0 x3_1).f4)]] (by rfl) rfl rfl (by (try simp only [List.map_toArray,List.map_cons,List.map_nil]);first | done|(simp only [hji3];rfl) | rfl|(simp only [List.length_drop,List.length_take];rfl)) ?_
        with_reducible refine (incipitref12_Less.calls ((rd_T28 l0 (ji3)).f0) ((rd_T28 l0 (ji3)).f1) ((rd_T28 l0 (ji3)).f2) ((rd_T28 l0 (ji3)).f3) ((rd_T28 l0 (ji3)).f4) ((rd_T28 l0 x3_1).f0) ((rd_T28 l0 x3_1).f1) ((rd_T28 l0 x3_1).f2) ((rd_T28 l0 x3_1).f3) ((rd_T28 l0 x3_1).f4) true _ A7.out).mono ?_
        rintro e w10 ⟨rfl, hb⟩
        refine ⟨_, rfl, ?_⟩
        have n0_:=Aside0.mk (below_step (by repeat (first|(with_reducible first|exact HB.out|apply below_alloc|apply pw_below_drewN|apply below_drew1)|exact HB.out)) hb)
        clear HB
        have HB := n0_
        clear n0_
        (try clear hb)
        (try clear hb2)
        (try clear hk)
        (try clear hi)
        refine hK.out _ _ ⟨((HB.out.cell (World.block_lt_of_cell? w _ hw239_0)).trans hw239_0),((HB.out.cell (World.block_lt_of_cell? w _ hw239_1)).trans hw239_1),((HB.out.cell (World.block_lt_of_cell? w _ hw239_2)).trans hw239_2),((HB.out.cell (World.block_lt_of_cell? w _ hw239_3)).trans hw239_3),((HB.out.cell (World.block_lt_of_cell? w _ hw239_4)).trans hw239_4),((HB.out.cell (World.block_lt_of_cell? w _ hw240_0)).trans hw240_0),((HB.out.cell (World.block_lt_of_cell? w _ hw240_1)).trans hw240_1),((HB.out.cell (World.block_lt_of_cell? w _ hw240_2)).trans hw240_2),((HB.out.cell (World.block_lt_of_cell? w _ hw240_3)).trans hw240_3),((HB.out.cell (World.block_lt_of_cell? w _ hw240_4)).trans hw240_4)⟩ (fun hHeld=>?_)
        clear hK K
        refine norm_ (a' := ?_) ?_ ?_
        rotate_left
        ·show Act.put _ (some 19) _ = _
         simp only [Act.put, List.setIfInBounds_toArray, List.set_cons_zero, List.set_cons_succ, i64_w, i32_w]
         rfl
        refine pure_ (i:=10) (N:=some 20) (v:=?_) (a':=?_) #[true,true,true,true,true,true,true,true,true,true,true] rfl rfl (any_of HT_.out (by kernel_rfl)) (fun _ _ _ h=>h) (Or.inl ⟨by rfl,?_⟩) ?_ ?_
        rotate_left
        ·intro w'
         go_simp
         with_reducible rfl
        rotate_left
        ·simp only [Act.put, List.setIfInBounds_toArray, List.set_cons_zero, List.set_cons_succ, i64_w, i32_w]
         rfl
        refine done_ (done_of HT_.out (by kernel_rfl)) ?_
        try go_wp2
        go_roundg k1
        case measure => have := HK1.out; omega
        case rel=>exact ⟨(wrap64 (x3_1 + 1)),(by first | rfl|(simp;done)|(simp [*];done)),H',⟨by have:=HK1.out;omega⟩,⟨by repeat (first|(with_reducible first|exact HB.out|apply below_alloc|apply pw_below_drewN|apply below_drew1)|exact HB.out)⟩⟩
       ·replace c8 := Bool.eq_false_iff.mpr c8
        subst c8
        have H1 : (some false) = some r := by rw [if_neg (show ¬ (false = true) by decide)] at H; exact H
        clear H
        have H := H1
        clear H1
        obtain rfl := Option.some.inj H
        simp only [Option.some.injEq, Prod.mk.injEq] at H
        obtain ⟨rfl⟩ := H
        try go_wp2
        have n0_ := Aside0.mk (below_drew1 HB.out)
        clear HB
        have HB := n0_
        clear n0_
        have p239 : 0 ≤ ((ji3) : Int) := of_decide_eq_true (by first|(with_reducible assumption) | assumption)
        have q239 : (ji3) < (l0.length : Int) := of_decide_eq_true (by first|(with_reducible assumption) | assumption)
        obtain ⟨ad239, e239, hx239_0, hx239_1, hx239_2, hx239_3, hx239_4⟩ := at_T28 HR0.out (ji3) p239 q239
        have hw239_4 := hx239_4
        have hw239_3 := hx239_3
        have hw239_2 := hx239_2
        have hw239_1 := hx239_1
        have hw239_0 := hx239_0
        cases e239
        replace hx239_0 := (HB.out.cell (World.block_lt_of_cell? w _ hx239_0)).trans hx239_0
        replace hx239_1 := (HB.out.cell (World.block_lt_of_cell? w _ hx239_1)).trans hx239_1
        replace hx239_2 := (HB.out.cell (World.block_lt_of_cell? w _ hx239_2)).trans hx239_2
        replace hx239_3 := (HB.out.cell (World.block_lt_of_cell? w _ hx239_3)).trans hx239_3
        replace hx239_4 := (HB.out.cell (World.block_lt_of_cell? w _ hx239_4)).trans hx239_4
        replace p239 := eq_true p239
        replace q239 := eq_true q239
        have p240 : 0 ≤ (x3_1 : Int) := of_decide_eq_true (by first|(with_reducible assumption) | assumption)
        have q240 : x3_1 < (l0.length : Int) := of_decide_eq_true (by first|(with_reducible assumption) | assumption)
        obtain ⟨ad240, e240, hx240_0, hx240_1, hx240_2, hx240_3, hx240_4⟩ := at_T28 HR0.out x3_1 p240 q240
        have hw240_4 := hx240_4
        have hw240_3 := hx240_3
        have hw240_2 := hx240_2
        have hw240_1 := hx240_1
        have hw240_0 := hx240_0
        obtain rfl : ad239 = ad240 := (by injection e240)
        replace hx240_0 := (HB.out.cell (World.block_lt_of_cell? w _ hx240_0)).trans hx240_0
        replace hx240_1 := (HB.out.cell (World.block_lt_of_cell? w _ hx240_1)).trans hx240_1
        replace hx240_2 := (HB.out.cell (World.block_lt_of_cell? w _ hx240_2)).trans hx240_2
        replace hx240_3 := (HB.out.cell (World.block_lt_of_cell? w _ hx240_3)).trans hx240_3
        replace hx240_4 := (HB.out.cell (World.block_lt_of_cell? w _ hx240_4)).trans hx240_4
        replace p240 := eq_true p240
        replace q240 := eq_true q240
        refine start_ (n:=11) (S:=fun w'=>w'.cell? (ad239.add (((ji3)).toNat * 5)) = some (.string ((rd_T28 l0 (ji3)).f0))∧w'.cell? ⟨(ad239.add (((ji3)).toNat * 5)).block,(ad239.add (((ji3)).toNat * 5)).off + 1,none⟩ = some (.int .i64 ((rd_T28 l0 (ji3)).f1))∧w'.cell? ⟨(ad239.add (((ji3)).toNat * 5)).block,(ad239.add (((ji3)).toNat * 5)).off + 2,none⟩ = some (.int .i64 ((rd_T28 l0 (ji3)).f2))∧w'.cell? ⟨(ad239.add (((ji3)).toNat * 5)).block,(ad239.add (((ji3)).toNat * 5)).off + 3,none⟩ = some (.string ((rd_T28 l0 (ji3)).f3))∧w'.cell? ⟨(ad239.add (((ji3)).toNat * 5)).block,(ad239.add (((ji3)).toNat * 5)).off + 4,none⟩ = some (.string ((rd_T28 l0 (ji3)).f4))∧w'.cell? (ad239.add ((x3_1).toNat * 5)) = some (.string ((rd_T28 l0 x3_1).f0))∧w'.cell? ⟨(ad239.add ((x3_1).toNat * 5)).block,(ad239.add ((x3_1).toNat * 5)).off + 1,none⟩ = some (.int .i64 ((rd_T28 l0 x3_1).f1))∧w'.cell? ⟨(ad239.add ((x3_1).toNat * 5)).block,(ad239.add ((x3_1).toNat * 5)).off + 2,none⟩ = some (.int .i64 ((rd_T28 l0 x3_1).f2))∧w'.cell? ⟨(ad239.add ((x3_1).toNat * 5)).block,(ad239.add ((x3_1).toNat * 5)).off + 3,none⟩ = some (.string ((rd_T28 l0 x3_1).f3))∧w'.cell? ⟨(ad239.add ((x3_1).toNat * 5)).block,(ad239.add ((x3_1).toNat * 5)).off + 4,none⟩ = some (.string ((rd_T28 l0 x3_1).f4))) (ds:=[]) #[false,false,false,false,false,false,false,false,false,false,false] (by kernel_rfl) rfl rfl ⟨((HB.out.cell (World.block_lt_of_cell? w _ hw239_0)).trans hw239_0),((HB.out.cell (World.block_lt_of_cell? w _ hw239_1)).trans hw239_1),((HB.out.cell (World.block_lt_of_cell? w _ hw239_2)).trans hw239_2),((HB.out.cell (World.block_lt_of_cell? w _ hw239_3)).trans hw239_3),((HB.out.cell (World.block_lt_of_cell? w _ hw239_4)).trans hw239_4),((HB.out.cell (World.block_lt_of_cell? w _ hw240_0)).trans hw240_0),((HB.out.cell (World.block_lt_of_cell? w _ hw240_1)).trans hw240_1),((HB.out.cell (World.block_lt_of_cell? w _ hw240_2)).trans hw240_2),((HB.out.cell (World.block_lt_of_cell? w _ hw240_3)).trans hw240_3),((HB.out.cell (World.block_lt_of_cell? w _ hw240_4)).trans hw240_4)⟩ (fun hHeld=>?_);refine with_tabW incipitref12_Sorted.tab4 incipitref12_Sorted.bits4 (fun HT_ HW_=>?_)
        generalize wr.drew = w11 at HB hx239_0 hx239_1 hx239_2 hx239_3 hx239_4 hx240_0 hx240_1 hx240_2 hx240_3 hx240_4 hHeld ⊢
        refine pure_ (i:=0) (N:=some 10) (v:=?_) (a':=?_) #[true,false,false,false,false,false,false,false,false,false,false] rfl rfl (any_of HT_.out (by kernel_rfl)) (fun _ _ _ h=>h) (Or.inl ⟨by rfl,?_⟩) ?_ ?_
        rotate_left
        ·intro w'
         go_simp
         with_reducible rfl
        rotate_left
        ·simp only [Act.put, List.setIfInBounds_toArray, List.set_cons_zero, List.set_cons_succ, i64_w, i32_w]
         rfl
        refine pure_ (i:=1) (N:=some 11) (v:=?_) (a':=?_) #[true,true,false,false,false,false,false,false,false,false,false] rfl rfl (any_of HT_.out (by kernel_rfl)) (fun _ _ _ h=>h) (Or.inl ⟨by rfl,?_⟩) ?_ ?_
        rotate_left
        ·intro w'
         go_simp
         with_reducible rfl
        rotate_left
        ·simp only [Act.put, List.setIfInBounds_toArray, List.set_cons_zero, List.set_cons_succ, i64_w, i32_w]
         rfl
        refine pure_ (i:=2) (N:=some 12) (v:=?_) (a':=?_) #[true,true,true,false,false,false,false,false,false,false,false] rfl rfl (any_of HT_.out (by kernel_rfl)) (fun _ _ _ h=>h) (Or.inl ⟨by rfl,?_⟩) ?_ ?_
        rotate_left
        ·intro w'
         go_simp
         with_reducible rfl
        rotate_left
        ·simp only [Act.put, List.setIfInBounds_toArray, List.set_cons_zero, List.set_cons_succ, i64_w, i32_w]
         rfl
        refine pure_ (i:=3) (N:=some 13) (v:=?_) (a':=?_) #[true,true,true,true,false,false,false,false,false,false,false] rfl rfl (any_of HT_.out (by kernel_rfl)) (fun _ _ _ h=>h) (Or.inl ⟨by rfl,?_⟩) ?_ ?_
        rotate_left
        ·intro w'
         go_simp
         with_reducible rfl
        rotate_left
        ·simp only [Act.put, List.setIfInBounds_toArray, List.set_cons_zero, List.set_cons_succ, i64_w, i32_w]
         rfl
        refine pure_ (i:=5) (N:=some 15) (v:=?_) (a':=?_) #[true,true,true,true,false,true,false,false,false,false,false] rfl rfl (any_of HT_.out (by kernel_rfl)) (fun _ _ _ h=>h) (Or.inl ⟨by rfl,?_⟩) ?_ ?_
        rotate_left
        ·intro w'
         go_simp
         with_reducible rfl
        rotate_left
        ·simp only [Act.put, List.setIfInBounds_toArray, List.set_cons_zero, List.set_cons_succ, i64_w, i32_w]
         rfl
        refine pure_ (i:=6) (N:=some 16) (v:=?_) (a':=?_) #[true,true,true,true,false,true,true,false,false,false,false] rfl rfl (any_of HT_.out (by kernel_rfl)) (fun _ _ _ h=>h) (Or.inl ⟨by rfl,?_⟩) ?_ ?_
        rotate_left
        ·intro w'
         go_simp
         with_reducible rfl
        rotate_left
        ·simp only [Act.put, List.setIfInBounds_toArray, List.set_cons_zero, List.set_cons_succ, i64_w, i32_w]
         rfl
        refine pure_ (i:=7) (N:=some 17) (v:=?_) (a':=?_) #[true,true,true,true,false,true,true,true,false,false,false] rfl rfl (any_of HT_.out (by kernel_rfl)) (fun _ _ _ h=>h) (Or.inl ⟨by rfl,?_⟩) ?_ ?_
        rotate_left
        ·intro w'
         go_simp
         with_reducible rfl
        rotate_left
        ·simp only [Act.put, List.setIfInBounds_toArray, List.set_cons_zero, List.set_cons_succ, i64_w, i32_w]
         rfl
        refine take_ (i:=4) (N:=some 14) (v:=?_) (a':=?_) #[true,true,true,true,true,true,true,true,false,false,false] rfl rfl (take_ofW HT_.out HW_.out (by kernel_rfl)) (fun _ _ _ h=>h) (Or.inl ⟨by rfl,?_⟩) hHeld ?_ ?_
        rotate_left
        ·rintro w' ⟨s0, s1, s2, s3, s4, s5, s6, s7, s8, s9⟩
         go_simp
         with_reducible rfl
        rotate_left
        ·simp only [Act.put, List.setIfInBounds_toArray, List.set_cons_zero, List.set_cons_succ, i64_w, i32_w]
         rfl
        refine take_ (i:=8) (N:=some 18) (v:=?_) (a':=?_) #[true,true,true,true,true,true,true,true,true,false,false] rfl rfl (take_ofW HT_.out HW_.out (by kernel_rfl)) (fun _ _ _ h=>h) (Or.inl ⟨by rfl,?_⟩) hHeld ?_ ?_
        rotate_left
        ·rintro w' ⟨s0, s1, s2, s3, s4, s5, s6, s7, s8, s9⟩
         go_simp
         with_reducible rfl
        rotate_left
        ·simp only [Act.put, List.setIfInBounds_toArray, List.set_cons_zero, List.set_cons_succ, i64_w, i32_w]
         rfl
        refine one_ (i:=9) (N:=some 19) #[true,true,true,true,true,true,true,true,true,true,false] rfl rfl (one_of HT_.out (by kernel_rfl)) (by decide) (fun K hK=>?_)
        refine goes_ Try.func36 (by kernel_rfl) rfl #[.agg #[.string ((rd_T28 l0 (ji3)).f0),.int .i64 ((rd_T28 l0 (ji3)).f1),.int .i64 ((rd_T28 l0 (ji3)).f2),.string ((rd_T28 l0 (ji3)).f3),.string ((rd_T28 l0 (ji3)).f4)],.agg #[.string ((rd_T28 l0 x3_1).f0),.int .i64 ((rd_T28 l0 x3_1).f1),.int .i64 ((rd_T28 l0 x3_1).f2),.string ((rd_T28 l0 x3_1).f3),.string ((rd_T28 l0 x3_1).f4)]] (by rfl) rfl rfl (by (try simp only [List.map_toArray,List.map_cons,List.map_nil]);first | done|(simp only [hji3];rfl) | rfl|(simp only [List.length_drop,List.length_take];rfl)) ?_
        with_reducible refine (incipitref12_Less.calls ((rd_T28 l0 (ji3)).f0) ((rd_T28 l0 (ji3)).f1) ((rd_T28 l0 (ji3)).f2) ((rd_T28 l0 (ji3)).f3) ((rd_T28 l0 (ji3)).f4) ((rd_T28 l0 x3_1).f0) ((rd_T28 l0 x3_1).f1) ((rd_T28 l0 x3_1).f2) ((rd_T28 l0 x3_1).f3) ((rd_T28 l0 x3_1).f4) false _ A7.out).mono ?_
        rintro e w12 ⟨rfl, hb⟩
        refine ⟨_, rfl, ?_⟩
        have n0_:=Aside0.mk (below_step (by repeat (first|(with_reducible first|exact HB.out|apply below_alloc|apply pw_below_drewN|apply below_drew1)|exact HB.out)) hb)
        clear HB
        have HB := n0_
        clear n0_
        (try clear hb)
        (try clear hb2)
        (try clear hk)
        (try clear hi)
        refine hK.out _ _ ⟨((HB.out.cell (World.block_lt_of_cell? w _ hw239_0)).trans hw239_0),((HB.out.cell (World.block_lt_of_cell? w _ hw239_1)).trans hw239_1),((HB.out.cell (World.block_lt_of_cell? w _ hw239_2)).trans hw239_2),((HB.out.cell (World.block_lt_of_cell? w _ hw239_3)).trans hw239_3),((HB.out.cell (World.block_lt_of_cell? w _ hw239_4)).trans hw239_4),((HB.out.cell (World.block_lt_of_cell? w _ hw240_0)).trans hw240_0),((HB.out.cell (World.block_lt_of_cell? w _ hw240_1)).trans hw240_1),((HB.out.cell (World.block_lt_of_cell? w _ hw240_2)).trans hw240_2),((HB.out.cell (World.block_lt_of_cell? w _ hw240_3)).trans hw240_3),((HB.out.cell (World.block_lt_of_cell? w _ hw240_4)).trans hw240_4)⟩ (fun hHeld=>?_)
        clear hK K
        refine norm_ (a' := ?_) ?_ ?_
        rotate_left
        ·show Act.put _ (some 19) _ = _
         simp only [Act.put, List.setIfInBounds_toArray, List.set_cons_zero, List.set_cons_succ, i64_w, i32_w]
         rfl
        refine pure_ (i:=10) (N:=some 20) (v:=?_) (a':=?_) #[true,true,true,true,true,true,true,true,true,true,true] rfl rfl (any_of HT_.out (by kernel_rfl)) (fun _ _ _ h=>h) (Or.inl ⟨by rfl,?_⟩) ?_ ?_
        rotate_left
        ·intro w'
         go_simp
         with_reducible rfl
        rotate_left
        ·simp only [Act.put, List.setIfInBounds_toArray, List.set_cons_zero, List.set_cons_succ, i64_w, i32_w]
         rfl
        refine done_ (done_of HT_.out (by kernel_rfl)) ?_
        try go_wp2
        go_ret
        exact ⟨by first | rfl|(simp [errW_none,errW_some] <;> rfl)|(simp only [← hji3];first | rfl|(simp [errW_none,errW_some] <;> rfl))|(simp [*,errW_none,errW_some] <;> rfl),by repeat (first|(with_reducible first|exact HB.out|apply below_alloc|apply pw_below_drewN|apply below_drew1)|exact HB.out)⟩
      ·rw [if_neg c6] at H
       exact absurd H (by simp)
     ·rw [if_neg c5] at H
      exact absurd H (by simp)
    ·rw [if_neg c4] at H
     exact absurd H (by simp)
   ·rw [if_neg c2] at H
    have c2b0 : decide (x3_1 < (l0.length : Int)) = false := decide_eq_false c2
    clear c2
    obtain rfl := Option.some.inj H
    simp only [Option.some.injEq, Prod.mk.injEq] at H
    obtain ⟨rfl⟩ := H
    go_wp2
    go_ret
    exact ⟨by first | rfl|(simp [errW_none,errW_some] <;> rfl)|(simp [*,errW_none,errW_some] <;> rfl),by repeat (first|(with_reducible first|exact HB.out|apply below_alloc|apply pw_below_drewN|apply below_drew1)|exact HB.out)⟩

-- NOT PRINTED: function 6 (incipitlaw17_TableRaw)

-- NOT PRINTED: function 7 (incipitlaw17_TableVersions)

/-! ### incipitlaw17_name: function 25 -/
def incipitlaw17_name.f (a0 : Int) : Option (ByteArray):=(some (([(wrap64 (97 + (Int.tmod (wrap64 (Int.tdiv a0 26)) 26))) % 256,(wrap64 (97 + (Int.tmod a0 26))) % 256] : List Int) : List Int)).bind fun y242=>(if 1 + (strOfNums y242).size ≤ 9223372036854775807 then (some ((⟨#[107]⟩ : ByteArray) ++ (strOfNums y242))) else (none))
set_option maxHeartbeats 80000000 in
set_option maxRecDepth 100000 in
theorem incipitlaw17_name.calls (a0 : Int) (r : ByteArray) (w : World) (h : incipitlaw17_name.f a0 = some r) :
  Calls Try.prog 25 #[.int .i64 a0] w fun e w' => e = .returned (.string r) ∧ Below w.heap.size w w' := by
 have HB := Aside0.mk (Below.refl w.heap.size w)
 have H : ((some (([(wrap64 (97 + (Int.tmod (wrap64 (Int.tdiv a0 26)) 26))) % 256,(wrap64 (97 + (Int.tmod a0 26))) % 256] : List Int) : List Int)).bind fun y242=>(if 1 + (strOfNums y242).size ≤ 9223372036854775807 then (some ((⟨#[107]⟩ : ByteArray) ++ (strOfNums y242))) else (none))) = some r:=h
 clear h
 obtain ⟨y242,hy242⟩ : ∃ y_ : List Int,y_ = (([(wrap64 (97 + (Int.tmod (wrap64 (Int.tdiv a0 26)) 26))) % 256,(wrap64 (97 + (Int.tmod a0 26))) % 256] : List Int)):=⟨_,rfl⟩
 replace H : (if 1 + (strOfNums y242).size ≤ 9223372036854775807 then (some ((⟨#[107]⟩ : ByteArray) ++ (strOfNums y242))) else (none)) = some r:=by first|(rw [hy242];with_reducible exact H)|(have H2_:=(Option.bind_some _ _).symm.trans H;rw [hy242];with_reducible exact H2_)|(have H2_:=(Option.bind_some _ _).symm.trans H;with_reducible exact H2_) | with_reducible exact H|(rw [hy242];exact H)|exact H
 have Ny242 := Aside0.mk hy242
 clear hy242
 by_cases c2 : 1 + (strOfNums y242).size ≤ 9223372036854775807
 ·rw [if_pos c2] at H
  have c2b0 := eq_true c2
  have c2b1 : decide (1 + (strOfNums y242).size ≤ 9223372036854775807) = true := decide_eq_true c2
  try have c2b2 : (9223372036854775807 < 1 + (strOfNums y242).size) = False := eq_false (Nat.not_lt.2 c2)
  obtain rfl := Option.some.inj H
  simp only [Option.some.injEq, Prod.mk.injEq] at H
  obtain ⟨rfl⟩ := H
  go_enter Try.func25, Try.ntmps25
  go_wp2_with (first|((with_reducible refine gate_dst (N:=12) rfl ?_);refine Kd.R_lit (Kd.int .u8) _ 5 ?hg (N:=12) ?hd (xs:=([(wrap64 (97 + (Int.tmod (wrap64 (Int.tdiv a0 26)) 26))) % 256,(wrap64 (97 + (Int.tmod a0 26))) % 256] : List Int)) (inner:=[.int .u8 ((wrap64 (97 + (Int.tmod (wrap64 (Int.tdiv a0 26)) 26))) % 256),.int .u8 ((wrap64 (97 + (Int.tmod a0 26))) % 256)]) (ok:=fun _=>True) (okp:=fun _=>True) ?hr ?hp (fun _ hk=>hk) trivial (Below.refl _ _) (Nat.le_refl _) (by simp) ?_;(case hd=>rfl);(case hg=>rfl);(case hr=>first|(go_simp;done)|(go_simp;rfl));(case hp=>exact (Reps.one (show Kd.M (Kd.int .u8) _ _ _ ((wrap64 (97 + (Int.tmod (wrap64 (Int.tdiv a0 26)) 26))) % 256) [.int .u8 ((wrap64 (97 + (Int.tmod (wrap64 (Int.tdiv a0 26)) 26))) % 256)] from rfl) (Reps.one (show Kd.M (Kd.int .u8) _ _ _ ((wrap64 (97 + (Int.tmod a0 26))) % 256) [.int .u8 ((wrap64 (97 + (Int.tmod a0 26))) % 256)] from rfl) (Reps.none _ _))));intro v243 w3 ho4 hb hg_ hnew_;clear hg_ hnew_;(first | rw [← Ny242.out] at ho4|(simp only [Int.reduceToNat] at ho4;rw [← Ny242.out] at ho4));have n0_:=Aside0.mk (Kd.R_lower ho4 (below_size (by repeat (first|(with_reducible first|exact HB.out|apply below_alloc|apply pw_below_drewN|apply below_drew1)|exact HB.out))));have n1_:=Aside0.mk (below_step (by repeat (first|(with_reducible first|exact HB.out|apply below_alloc|apply pw_below_drewN|apply below_drew1)|exact HB.out)) hb);clear HB;have HO244:=n0_;have HB:=n1_;clear n0_ n1_;clear hb ho4;have hcv5:=own_string (P:=Try.prog) Try.underlying43 Try.underlying5 Try.underlying9 (Kd.own_of_R HO244.out);(try have hcv6:=fun n_=>own_string (P:=Try.prog) Try.underlying43 Try.underlying5 Try.underlying9 (Kd.own_of_R (Kd.R_drewN HO244.out n_)))))
  go_ret
  exact ⟨by first | rfl|(simp [errW_none,errW_some] <;> rfl)|(simp [*,errW_none,errW_some] <;> rfl),by repeat (first|(with_reducible first|exact HB.out|apply below_alloc|apply pw_below_drewN|apply below_drew1)|exact HB.out)⟩
 ·rw [if_neg c2] at H
  exact absurd H (by simp)

-- NOT PRINTED: function 63 (api_Entry)

-- NOT PRINTED: function 28 (table_Table_From)

-- NOT PRINTED: function 8 (incipitlaw17_TableMany)

/-! ### incipitref12_Eq: function 19 -/
def incipitref12_Eq.f (a0_0 : ByteArray) (a0_1 : Int) (a0_2 : Int) (a0_3 : ByteArray) (a0_4 : ByteArray) (a1_0 : ByteArray) (a1_1 : Int) (a1_2 : Int) (a1_3 : ByteArray) (a1_4 : ByteArray) : Option (Bool):=if a0_0.toList = a1_0.toList then (if a0_1 = a1_1 then (if a0_2 = a1_2 then (if a0_3.toList = a1_3.toList then (some (a0_4.toList == a1_4.toList)) else (some false)) else (some false)) else (some false)) else (some false)
set_option maxHeartbeats 80000000 in
set_option maxRecDepth 100000 in
theorem incipitref12_Eq.calls (a0_0 : ByteArray) (a0_1 : Int) (a0_2 : Int) (a0_3 : ByteArray) (a0_4 : ByteArray) (a1_0 : ByteArray) (a1_1 : Int) (a1_2 : Int) (a1_3 : ByteArray) (a1_4 : ByteArray) (r : Bool) (w : World) (h : incipitref12_Eq.f a0_0 a0_1 a0_2 a0_3 a0_4 a1_0 a1_1 a1_2 a1_3 a1_4 = some r) :
  Calls Try.prog 19 #[.agg #[.string a0_0,.int .i64 a0_1,.int .i64 a0_2,.string a0_3,.string a0_4],.agg #[.string a1_0,.int .i64 a1_1,.int .i64 a1_2,.string a1_3,.string a1_4]] w fun e w'=>e = .returned (.bool r)∧Below w.heap.size w w':=by
 have hu28 := Try.underlying28
 have HB := Aside0.mk (Below.refl w.heap.size w)
 have H : (if a0_0.toList = a1_0.toList then (if a0_1 = a1_1 then (if a0_2 = a1_2 then (if a0_3.toList = a1_3.toList then (some (a0_4.toList == a1_4.toList)) else (some false)) else (some false)) else (some false)) else (some false)) = some r:=h
 clear h
 by_cases c3 : a0_0.toList = a1_0.toList
 ·rw [if_pos c3] at H
  have c3b0 : (a0_0.toList == a1_0.toList) = true := beq_iff_eq.mpr c3
  have c3b1 : (a0_0.toList != a1_0.toList) = false := bne_eq_false_iff_eq.mpr c3
  clear c3
  by_cases c4 : a0_1 = a1_1
  ·rw [if_pos c4] at H
   have c4b0 : (a0_1 == a1_1) = true := beq_iff_eq.mpr c4
   have c4b1 : (a0_1 != a1_1) = false := bne_eq_false_iff_eq.mpr c4
   clear c4
   by_cases c5 : a0_2 = a1_2
   ·rw [if_pos c5] at H
    have c5b0 : (a0_2 == a1_2) = true := beq_iff_eq.mpr c5
    have c5b1 : (a0_2 != a1_2) = false := bne_eq_false_iff_eq.mpr c5
    clear c5
    by_cases c6 : a0_3.toList = a1_3.toList
    ·rw [if_pos c6] at H
     have c6b0 : (a0_3.toList == a1_3.toList) = true := beq_iff_eq.mpr c6
     have c6b1 : (a0_3.toList != a1_3.toList) = false := bne_eq_false_iff_eq.mpr c6
     clear c6
     obtain rfl := Option.some.inj H
     simp only [Option.some.injEq, Prod.mk.injEq] at H
     obtain ⟨rfl⟩ := H
     go_enter Try.func19, Try.ntmps19
     go_wp2_with (first|((with_reducible refine gate_dst (N:=2) rfl ?_);refine box_event ?hg (N:=2) ?hd (cs:=#[.string a0_0,.int .i64 a0_1,.int .i64 a0_2,.string a0_3,.string a0_4]) (t:=28) ?hr ?_;(case hd=>rfl);(case hg=>rfl);(case hr=>first|(go_simp;done)|(go_simp;rfl));intro gb245 hg w7 hbox hb;have n0_:=Aside0.mk (below_step (by repeat (first|(with_reducible first|exact HB.out|apply below_alloc|apply pw_below_drewN|apply below_drew1)|exact HB.out)) hb);have n1_:=Aside0.mk (hbox);have n2_:=Aside0.mk ((by rw [hg];exact (below_size (by repeat (first|(with_reducible first|exact HB.out|apply below_alloc|apply pw_below_drewN|apply below_drew1)|exact HB.out))) : w.heap.size ≤ gb245));have n3_:=Aside0.mk ((by rw [hg];exact (below_size (by repeat (first|(with_reducible first|exact HB.out|apply below_alloc|apply pw_below_drewN|apply below_drew1)|exact HB.out))) : w.heap.size ≤ gb245));clear HB;have HB:=n0_;have BK245:=n1_;have GW245:=n2_;have GE245:=n3_;clear n0_ n1_ n2_ n3_;clear hb hbox hg)|((with_reducible refine gate_dst (N:=3) rfl ?_);refine box_event ?hg (N:=3) ?hd (cs:=#[.string a1_0,.int .i64 a1_1,.int .i64 a1_2,.string a1_3,.string a1_4]) (t:=28) ?hr ?_;(case hd=>rfl);(case hg=>rfl);(case hr=>first|(go_simp;done)|(go_simp;rfl));intro gb246 hg w8 hbox hb;have n0_:=Aside0.mk (blk_below (g:=gb245) (o:=.cells #[.string a0_0,.int .i64 a0_1,.int .i64 a0_2,.string a0_3,.string a0_4] 28 (0,0)) (by (with_reducible repeat (first|refine blk_drewN ?_ _|refine blk_drew ?_|refine blk_alloc ?_ _));exact BK245.out) hb);have n1_:=Aside0.mk (below_step (by repeat (first|(with_reducible first|exact HB.out|apply below_alloc|apply pw_below_drewN|apply below_drew1|refine below_set ?_ GE245.out)|exact HB.out)) hb);have n2_:=Aside0.mk (hbox);have n3_:=Aside0.mk ((by rw [hg];exact (below_size (by repeat (first|(with_reducible first|exact HB.out|apply below_alloc|apply pw_below_drewN|apply below_drew1|refine below_set ?_ GE245.out)|exact HB.out))) : w.heap.size ≤ gb246));have n4_:=Aside0.mk ((by rw [hg];exact (below_size (by repeat (first|(with_reducible first|exact HB.out|apply below_alloc|apply pw_below_drewN|apply below_drew1|refine below_set ?_ GE245.out)|exact HB.out))) : w.heap.size ≤ gb246));have n5_:=Aside0.mk ((by rw [hg];exact Nat.ne_of_lt (blk_lt (g:=gb245) (o:=.cells #[.string a0_0,.int .i64 a0_1,.int .i64 a0_2,.string a0_3,.string a0_4] 28 (0,0)) (by (with_reducible repeat (first|refine blk_drewN ?_ _|refine blk_drew ?_|refine blk_alloc ?_ _));exact BK245.out)) : gb245 ≠ gb246));have n6_:=Aside0.mk ((by rw [hg];exact Nat.ne_of_gt (blk_lt (g:=gb245) (o:=.cells #[.string a0_0,.int .i64 a0_1,.int .i64 a0_2,.string a0_3,.string a0_4] 28 (0,0)) (by (with_reducible repeat (first|refine blk_drewN ?_ _|refine blk_drew ?_|refine blk_alloc ?_ _));exact BK245.out)) : gb246 ≠ gb245));clear BK245;clear HB;have BK245:=n0_;have HB:=n1_;have BK246:=n2_;have GW246:=n3_;have GE246:=n4_;have NB245_246:=n5_;have NB246_245:=n6_;clear n0_ n1_ n2_ n3_ n4_ n5_ n6_;clear hb hbox hg;have hnb9:=NB245_246.out;have hnc9:=NB246_245.out;have hcz10_0 : w8.cell? ⟨gb245,0,none⟩ = some (.string a0_0):=(blk_cell BK245.out 0).trans rfl;have hcz10_1 : w8.cell? ⟨gb245,1,none⟩ = some (.int .i64 a0_1):=(blk_cell BK245.out 1).trans rfl;have hcz10_2 : w8.cell? ⟨gb245,2,none⟩ = some (.int .i64 a0_2):=(blk_cell BK245.out 2).trans rfl;have hcz10_3 : w8.cell? ⟨gb245,3,none⟩ = some (.string a0_3):=(blk_cell BK245.out 3).trans rfl;have hcz10_4 : w8.cell? ⟨gb245,4,none⟩ = some (.string a0_4):=(blk_cell BK245.out 4).trans rfl;have hfz10_0:=blk_frozen BK245.out 0;have hfz10_1:=blk_frozen BK245.out 1;have hfz10_2:=blk_frozen BK245.out 2;have hfz10_3:=blk_frozen BK245.out 3;have hfz10_4:=blk_frozen BK245.out 4;have hcz11_0 : w8.cell? ⟨gb246,0,none⟩ = some (.string a1_0):=(blk_cell BK246.out 0).trans rfl;have hcz11_1 : w8.cell? ⟨gb246,1,none⟩ = some (.int .i64 a1_1):=(blk_cell BK246.out 1).trans rfl;have hcz11_2 : w8.cell? ⟨gb246,2,none⟩ = some (.int .i64 a1_2):=(blk_cell BK246.out 2).trans rfl;have hcz11_3 : w8.cell? ⟨gb246,3,none⟩ = some (.string a1_3):=(blk_cell BK246.out 3).trans rfl;have hcz11_4 : w8.cell? ⟨gb246,4,none⟩ = some (.string a1_4):=(blk_cell BK246.out 4).trans rfl;have hfz11_0:=blk_frozen BK246.out 0;have hfz11_1:=blk_frozen BK246.out 1;have hfz11_2:=blk_frozen BK246.out 2;have hfz11_3:=blk_frozen BK246.out 3;have hfz11_4:=blk_frozen BK246.out 4))
     go_ret
     exact ⟨by first | rfl|(simp [errW_none,errW_some] <;> rfl)|(simp [*,errW_none,errW_some] <;> rfl),by repeat (first|(with_reducible first|exact HB.out|apply below_alloc|apply pw_below_drewN|apply below_drew1|refine below_set ?_ GE245.out|refine below_set ?_ GE246.out)|exact HB.out)⟩
    ·rw [if_neg c6] at H
     have c6b0 : (a0_3.toList == a1_3.toList) = false := beq_eq_false_iff_ne.mpr c6
     have c6b1 : (a0_3.toList != a1_3.toList) = true := bne_iff_ne.mpr c6
     obtain rfl := Option.some.inj H
     simp only [Option.some.injEq, Prod.mk.injEq] at H
     obtain ⟨rfl⟩ := H
     go_enter Try.func19, Try.ntmps19
     go_wp2_with (first|((with_reducible refine gate_dst (N:=2) rfl ?_);refine box_event ?hg (N:=2) ?hd (cs:=#[.string a0_0,.int .i64 a0_1,.int .i64 a0_2,.string a0_3,.string a0_4]) (t:=28) ?hr ?_;(case hd=>rfl);(case hg=>rfl);(case hr=>first|(go_simp;done)|(go_simp;rfl));intro gb245 hg w12 hbox hb;have n0_:=Aside0.mk (below_step (by repeat (first|(with_reducible first|exact HB.out|apply below_alloc|apply pw_below_drewN|apply below_drew1)|exact HB.out)) hb);have n1_:=Aside0.mk (hbox);have n2_:=Aside0.mk ((by rw [hg];exact (below_size (by repeat (first|(with_reducible first|exact HB.out|apply below_alloc|apply pw_below_drewN|apply below_drew1)|exact HB.out))) : w.heap.size ≤ gb245));have n3_:=Aside0.mk ((by rw [hg];exact (below_size (by repeat (first|(with_reducible first|exact HB.out|apply below_alloc|apply pw_below_drewN|apply below_drew1)|exact HB.out))) : w.heap.size ≤ gb245));clear HB;have HB:=n0_;have BK245:=n1_;have GW245:=n2_;have GE245:=n3_;clear n0_ n1_ n2_ n3_;clear hb hbox hg)|((with_reducible refine gate_dst (N:=3) rfl ?_);refine box_event ?hg (N:=3) ?hd (cs:=#[.string a1_0,.int .i64 a1_1,.int .i64 a1_2,.string a1_3,.string a1_4]) (t:=28) ?hr ?_;(case hd=>rfl);(case hg=>rfl);(case hr=>first|(go_simp;done)|(go_simp;rfl));intro gb246 hg w13 hbox hb;have n0_:=Aside0.mk (blk_below (g:=gb245) (o:=.cells #[.string a0_0,.int .i64 a0_1,.int .i64 a0_2,.string a0_3,.string a0_4] 28 (0,0)) (by (with_reducible repeat (first|refine blk_drewN ?_ _|refine blk_drew ?_|refine blk_alloc ?_ _));exact BK245.out) hb);have n1_:=Aside0.mk (below_step (by repeat (first|(with_reducible first|exact HB.out|apply below_alloc|apply pw_below_drewN|apply below_drew1|refine below_set ?_ GE245.out)|exact HB.out)) hb);have n2_:=Aside0.mk (hbox);have n3_:=Aside0.mk ((by rw [hg];exact (below_size (by repeat (first|(with_reducible first|exact HB.out|apply below_alloc|apply pw_below_drewN|apply below_drew1|refine below_set ?_ GE245.out)|exact HB.out))) : w.heap.size ≤ gb246));have n4_:=Aside0.mk ((by rw [hg];exact (below_size (by repeat (first|(with_reducible first|exact HB.out|apply below_alloc|apply pw_below_drewN|apply below_drew1|refine below_set ?_ GE245.out)|exact HB.out))) : w.heap.size ≤ gb246));have n5_:=Aside0.mk ((by rw [hg];exact Nat.ne_of_lt (blk_lt (g:=gb245) (o:=.cells #[.string a0_0,.int .i64 a0_1,.int .i64 a0_2,.string a0_3,.string a0_4] 28 (0,0)) (by (with_reducible repeat (first|refine blk_drewN ?_ _|refine blk_drew ?_|refine blk_alloc ?_ _));exact BK245.out)) : gb245 ≠ gb246));have n6_:=Aside0.mk ((by rw [hg];exact Nat.ne_of_gt (blk_lt (g:=gb245) (o:=.cells #[.string a0_0,.int .i64 a0_1,.int .i64 a0_2,.string a0_3,.string a0_4] 28 (0,0)) (by (with_reducible repeat (first|refine blk_drewN ?_ _|refine blk_drew ?_|refine blk_alloc ?_ _));exact BK245.out)) : gb246 ≠ gb245));clear BK245;clear HB;have BK245:=n0_;have HB:=n1_;have BK246:=n2_;have GW246:=n3_;have GE246:=n4_;have NB245_246:=n5_;have NB246_245:=n6_;clear n0_ n1_ n2_ n3_ n4_ n5_ n6_;clear hb hbox hg;have hnb14:=NB245_246.out;have hnc14:=NB246_245.out;have hcz15_0 : w13.cell? ⟨gb245,0,none⟩ = some (.string a0_0):=(blk_cell BK245.out 0).trans rfl;have hcz15_1 : w13.cell? ⟨gb245,1,none⟩ = some (.int .i64 a0_1):=(blk_cell BK245.out 1).trans rfl;have hcz15_2 : w13.cell? ⟨gb245,2,none⟩ = some (.int .i64 a0_2):=(blk_cell BK245.out 2).trans rfl;have hcz15_3 : w13.cell? ⟨gb245,3,none⟩ = some (.string a0_3):=(blk_cell BK245.out 3).trans rfl;have hcz15_4 : w13.cell? ⟨gb245,4,none⟩ = some (.string a0_4):=(blk_cell BK245.out 4).trans rfl;have hfz15_0:=blk_frozen BK245.out 0;have hfz15_1:=blk_frozen BK245.out 1;have hfz15_2:=blk_frozen BK245.out 2;have hfz15_3:=blk_frozen BK245.out 3;have hfz15_4:=blk_frozen BK245.out 4;have hcz16_0 : w13.cell? ⟨gb246,0,none⟩ = some (.string a1_0):=(blk_cell BK246.out 0).trans rfl;have hcz16_1 : w13.cell? ⟨gb246,1,none⟩ = some (.int .i64 a1_1):=(blk_cell BK246.out 1).trans rfl;have hcz16_2 : w13.cell? ⟨gb246,2,none⟩ = some (.int .i64 a1_2):=(blk_cell BK246.out 2).trans rfl;have hcz16_3 : w13.cell? ⟨gb246,3,none⟩ = some (.string a1_3):=(blk_cell BK246.out 3).trans rfl;have hcz16_4 : w13.cell? ⟨gb246,4,none⟩ = some (.string a1_4):=(blk_cell BK246.out 4).trans rfl;have hfz16_0:=blk_frozen BK246.out 0;have hfz16_1:=blk_frozen BK246.out 1;have hfz16_2:=blk_frozen BK246.out 2;have hfz16_3:=blk_frozen BK246.out 3;have hfz16_4:=blk_frozen BK246.out 4))
     go_ret
     exact ⟨by first | rfl|(simp [errW_none,errW_some] <;> rfl)|(simp [*,errW_none,errW_some] <;> rfl),by repeat (first|(with_reducible first|exact HB.out|apply below_alloc|apply pw_below_drewN|apply below_drew1|refine below_set ?_ GE245.out|refine below_set ?_ GE246.out)|exact HB.out)⟩
   ·rw [if_neg c5] at H
    have c5b0 : (a0_2 == a1_2) = false := beq_eq_false_iff_ne.mpr c5
    have c5b1 : (a0_2 != a1_2) = true := bne_iff_ne.mpr c5
    obtain rfl := Option.some.inj H
    simp only [Option.some.injEq, Prod.mk.injEq] at H
    obtain ⟨rfl⟩ := H
    go_enter Try.func19, Try.ntmps19
    go_wp2_with (first|((with_reducible refine gate_dst (N:=2) rfl ?_);refine box_event ?hg (N:=2) ?hd (cs:=#[.string a0_0,.int .i64 a0_1,.int .i64 a0_2,.string a0_3,.string a0_4]) (t:=28) ?hr ?_;(case hd=>rfl);(case hg=>rfl);(case hr=>first|(go_simp;done)|(go_simp;rfl));intro gb245 hg w17 hbox hb;have n0_:=Aside0.mk (below_step (by repeat (first|(with_reducible first|exact HB.out|apply below_alloc|apply pw_below_drewN|apply below_drew1)|exact HB.out)) hb);have n1_:=Aside0.mk (hbox);have n2_:=Aside0.mk ((by rw [hg];exact (below_size (by repeat (first|(with_reducible first|exact HB.out|apply below_alloc|apply pw_below_drewN|apply below_drew1)|exact HB.out))) : w.heap.size ≤ gb245));have n3_:=Aside0.mk ((by rw [hg];exact (below_size (by repeat (first|(with_reducible first|exact HB.out|apply below_alloc|apply pw_below_drewN|apply below_drew1)|exact HB.out))) : w.heap.size ≤ gb245));clear HB;have HB:=n0_;have BK245:=n1_;have GW245:=n2_;have GE245:=n3_;clear n0_ n1_ n2_ n3_;clear hb hbox hg)|((with_reducible refine gate_dst (N:=3) rfl ?_);refine box_event ?hg (N:=3) ?hd (cs:=#[.string a1_0,.int .i64 a1_1,.int .i64 a1_2,.string a1_3,.string a1_4]) (t:=28) ?hr ?_;(case hd=>rfl);(case hg=>rfl);(case hr=>first|(go_simp;done)|(go_simp;rfl));intro gb246 hg w18 hbox hb;have n0_:=Aside0.mk (blk_below (g:=gb245) (o:=.cells #[.string a0_0,.int .i64 a0_1,.int .i64 a0_2,.string a0_3,.string a0_4] 28 (0,0)) (by (with_reducible repeat (first|refine blk_drewN ?_ _|refine blk_drew ?_|refine blk_alloc ?_ _));exact BK245.out) hb);have n1_:=Aside0.mk (below_step (by repeat (first|(with_reducible first|exact HB.out|apply below_alloc|apply pw_below_drewN|apply below_drew1|refine below_set ?_ GE245.out)|exact HB.out)) hb);have n2_:=Aside0.mk (hbox);have n3_:=Aside0.mk ((by rw [hg];exact (below_size (by repeat (first|(with_reducible first|exact HB.out|apply below_alloc|apply pw_below_drewN|apply below_drew1|refine below_set ?_ GE245.out)|exact HB.out))) : w.heap.size ≤ gb246));have n4_:=Aside0.mk ((by rw [hg];exact (below_size (by repeat (first|(with_reducible first|exact HB.out|apply below_alloc|apply pw_below_drewN|apply below_drew1|refine below_set ?_ GE245.out)|exact HB.out))) : w.heap.size ≤ gb246));have n5_:=Aside0.mk ((by rw [hg];exact Nat.ne_of_lt (blk_lt (g:=gb245) (o:=.cells #[.string a0_0,.int .i64 a0_1,.int .i64 a0_2,.string a0_3,.string a0_4] 28 (0,0)) (by (with_reducible repeat (first|refine blk_drewN ?_ _|refine blk_drew ?_|refine blk_alloc ?_ _));exact BK245.out)) : gb245 ≠ gb246));have n6_:=Aside0.mk ((by rw [hg];exact Nat.ne_of_gt (blk_lt (g:=gb245) (o:=.cells #[.string a0_0,.int .i64 a0_1,.int .i64 a0_2,.string a0_3,.string a0_4] 28 (0,0)) (by (with_reducible repeat (first|refine blk_drewN ?_ _|refine blk_drew ?_|refine blk_alloc ?_ _));exact BK245.out)) : gb246 ≠ gb245));clear BK245;clear HB;have BK245:=n0_;have HB:=n1_;have BK246:=n2_;have GW246:=n3_;have GE246:=n4_;have NB245_246:=n5_;have NB246_245:=n6_;clear n0_ n1_ n2_ n3_ n4_ n5_ n6_;clear hb hbox hg;have hnb19:=NB245_246.out;have hnc19:=NB246_245.out;have hcz20_0 : w18.cell? ⟨gb245,0,none⟩ = some (.string a0_0):=(blk_cell BK245.out 0).trans rfl;have hcz20_1 : w18.cell? ⟨gb245,1,none⟩ = some (.int .i64 a0_1):=(blk_cell BK245.out 1).trans rfl;have hcz20_2 : w18.cell? ⟨gb245,2,none⟩ = some (.int .i64 a0_2):=(blk_cell BK245.out 2).trans rfl;have hcz20_3 : w18.cell? ⟨gb245,3,none⟩ = some (.string a0_3):=(blk_cell BK245.out 3).trans rfl;have hcz20_4 : w18.cell? ⟨gb245,4,none⟩ = some (.string a0_4):=(blk_cell BK245.out 4).trans rfl;have hfz20_0:=blk_frozen BK245.out 0;have hfz20_1:=blk_frozen BK245.out 1;have hfz20_2:=blk_frozen BK245.out 2;have hfz20_3:=blk_frozen BK245.out 3;have hfz20_4:=blk_frozen BK245.out 4;have hcz21_0 : w18.cell? ⟨gb246,0,none⟩ = some (.string a1_0):=(blk_cell BK246.out 0).trans rfl;have hcz21_1 : w18.cell? ⟨gb246,1,none⟩ = some (.int .i64 a1_1):=(blk_cell BK246.out 1).trans rfl;have hcz21_2 : w18.cell? ⟨gb246,2,none⟩ = some (.int .i64 a1_2):=(blk_cell BK246.out 2).trans rfl;have hcz21_3 : w18.cell? ⟨gb246,3,none⟩ = some (.string a1_3):=(blk_cell BK246.out 3).trans rfl;have hcz21_4 : w18.cell? ⟨gb246,4,none⟩ = some (.string a1_4):=(blk_cell BK246.out 4).trans rfl;have hfz21_0:=blk_frozen BK246.out 0;have hfz21_1:=blk_frozen BK246.out 1;have hfz21_2:=blk_frozen BK246.out 2;have hfz21_3:=blk_frozen BK246.out 3;have hfz21_4:=blk_frozen BK246.out 4))
    go_ret
    exact ⟨by first | rfl|(simp [errW_none,errW_some] <;> rfl)|(simp [*,errW_none,errW_some] <;> rfl),by repeat (first|(with_reducible first|exact HB.out|apply below_alloc|apply pw_below_drewN|apply below_drew1|refine below_set ?_ GE245.out|refine below_set ?_ GE246.out)|exact HB.out)⟩
  ·rw [if_neg c4] at H
   have c4b0 : (a0_1 == a1_1) = false := beq_eq_false_iff_ne.mpr c4
   have c4b1 : (a0_1 != a1_1) = true := bne_iff_ne.mpr c4
   obtain rfl := Option.some.inj H
   simp only [Option.some.injEq, Prod.mk.injEq] at H
   obtain ⟨rfl⟩ := H
   go_enter Try.func19, Try.ntmps19
   go_wp2_with (first|((with_reducible refine gate_dst (N:=2) rfl ?_);refine box_event ?hg (N:=2) ?hd (cs:=#[.string a0_0,.int .i64 a0_1,.int .i64 a0_2,.string a0_3,.string a0_4]) (t:=28) ?hr ?_;(case hd=>rfl);(case hg=>rfl);(case hr=>first|(go_simp;done)|(go_simp;rfl));intro gb245 hg w22 hbox hb;have n0_:=Aside0.mk (below_step (by repeat (first|(with_reducible first|exact HB.out|apply below_alloc|apply pw_below_drewN|apply below_drew1)|exact HB.out)) hb);have n1_:=Aside0.mk (hbox);have n2_:=Aside0.mk ((by rw [hg];exact (below_size (by repeat (first|(with_reducible first|exact HB.out|apply below_alloc|apply pw_below_drewN|apply below_drew1)|exact HB.out))) : w.heap.size ≤ gb245));have n3_:=Aside0.mk ((by rw [hg];exact (below_size (by repeat (first|(with_reducible first|exact HB.out|apply below_alloc|apply pw_below_drewN|apply below_drew1)|exact HB.out))) : w.heap.size ≤ gb245));clear HB;have HB:=n0_;have BK245:=n1_;have GW245:=n2_;have GE245:=n3_;clear n0_ n1_ n2_ n3_;clear hb hbox hg)|((with_reducible refine gate_dst (N:=3) rfl ?_);refine box_event ?hg (N:=3) ?hd (cs:=#[.string a1_0,.int .i64 a1_1,.int .i64 a1_2,.string a1_3,.string a1_4]) (t:=28) ?hr ?_;(case hd=>rfl);(case hg=>rfl);(case hr=>first|(go_simp;done)|(go_simp;rfl));intro gb246 hg w23 hbox hb;have n0_:=Aside0.mk (blk_below (g:=gb245) (o:=.cells #[.string a0_0,.int .i64 a0_1,.int .i64 a0_2,.string a0_3,.string a0_4] 28 (0,0)) (by (with_reducible repeat (first|refine blk_drewN ?_ _|refine blk_drew ?_|refine blk_alloc ?_ _));exact BK245.out) hb);have n1_:=Aside0.mk (below_step (by repeat (first|(with_reducible first|exact HB.out|apply below_alloc|apply pw_below_drewN|apply below_drew1|refine below_set ?_ GE245.out)|exact HB.out)) hb);have n2_:=Aside0.mk (hbox);have n3_:=Aside0.mk ((by rw [hg];exact (below_size (by repeat (first|(with_reducible first|exact HB.out|apply below_alloc|apply pw_below_drewN|apply below_drew1|refine below_set ?_ GE245.out)|exact HB.out))) : w.heap.size ≤ gb246));have n4_:=Aside0.mk ((by rw [hg];exact (below_size (by repeat (first|(with_reducible first|exact HB.out|apply below_alloc|apply pw_below_drewN|apply below_drew1|refine below_set ?_ GE245.out)|exact HB.out))) : w.heap.size ≤ gb246));have n5_:=Aside0.mk ((by rw [hg];exact Nat.ne_of_lt (blk_lt (g:=gb245) (o:=.cells #[.string a0_0,.int .i64 a0_1,.int .i64 a0_2,.string a0_3,.string a0_4] 28 (0,0)) (by (with_reducible repeat (first|refine blk_drewN ?_ _|refine blk_drew ?_|refine blk_alloc ?_ _));exact BK245.out)) : gb245 ≠ gb246));have n6_:=Aside0.mk ((by rw [hg];exact Nat.ne_of_gt (blk_lt (g:=gb245) (o:=.cells #[.string a0_0,.int .i64 a0_1,.int .i64 a0_2,.string a0_3,.string a0_4] 28 (0,0)) (by (with_reducible repeat (first|refine blk_drewN ?_ _|refine blk_drew ?_|refine blk_alloc ?_ _));exact BK245.out)) : gb246 ≠ gb245));clear BK245;clear HB;have BK245:=n0_;have HB:=n1_;have BK246:=n2_;have GW246:=n3_;have GE246:=n4_;have NB245_246:=n5_;have NB246_245:=n6_;clear n0_ n1_ n2_ n3_ n4_ n5_ n6_;clear hb hbox hg;have hnb24:=NB245_246.out;have hnc24:=NB246_245.out;have hcz25_0 : w23.cell? ⟨gb245,0,none⟩ = some (.string a0_0):=(blk_cell BK245.out 0).trans rfl;have hcz25_1 : w23.cell? ⟨gb245,1,none⟩ = some (.int .i64 a0_1):=(blk_cell BK245.out 1).trans rfl;have hcz25_2 : w23.cell? ⟨gb245,2,none⟩ = some (.int .i64 a0_2):=(blk_cell BK245.out 2).trans rfl;have hcz25_3 : w23.cell? ⟨gb245,3,none⟩ = some (.string a0_3):=(blk_cell BK245.out 3).trans rfl;have hcz25_4 : w23.cell? ⟨gb245,4,none⟩ = some (.string a0_4):=(blk_cell BK245.out 4).trans rfl;have hfz25_0:=blk_frozen BK245.out 0;have hfz25_1:=blk_frozen BK245.out 1;have hfz25_2:=blk_frozen BK245.out 2;have hfz25_3:=blk_frozen BK245.out 3;have hfz25_4:=blk_frozen BK245.out 4;have hcz26_0 : w23.cell? ⟨gb246,0,none⟩ = some (.string a1_0):=(blk_cell BK246.out 0).trans rfl;have hcz26_1 : w23.cell? ⟨gb246,1,none⟩ = some (.int .i64 a1_1):=(blk_cell BK246.out 1).trans rfl;have hcz26_2 : w23.cell? ⟨gb246,2,none⟩ = some (.int .i64 a1_2):=(blk_cell BK246.out 2).trans rfl;have hcz26_3 : w23.cell? ⟨gb246,3,none⟩ = some (.string a1_3):=(blk_cell BK246.out 3).trans rfl;have hcz26_4 : w23.cell? ⟨gb246,4,none⟩ = some (.string a1_4):=(blk_cell BK246.out 4).trans rfl;have hfz26_0:=blk_frozen BK246.out 0;have hfz26_1:=blk_frozen BK246.out 1;have hfz26_2:=blk_frozen BK246.out 2;have hfz26_3:=blk_frozen BK246.out 3;have hfz26_4:=blk_frozen BK246.out 4))
   go_ret
   exact ⟨by first | rfl|(simp [errW_none,errW_some] <;> rfl)|(simp [*,errW_none,errW_some] <;> rfl),by repeat (first|(with_reducible first|exact HB.out|apply below_alloc|apply pw_below_drewN|apply below_drew1|refine below_set ?_ GE245.out|refine below_set ?_ GE246.out)|exact HB.out)⟩
 ·rw [if_neg c3] at H
  have c3b0 : (a0_0.toList == a1_0.toList) = false := beq_eq_false_iff_ne.mpr c3
  have c3b1 : (a0_0.toList != a1_0.toList) = true := bne_iff_ne.mpr c3
  obtain rfl := Option.some.inj H
  simp only [Option.some.injEq, Prod.mk.injEq] at H
  obtain ⟨rfl⟩ := H
  go_enter Try.func19, Try.ntmps19
  go_wp2_with (first|((with_reducible refine gate_dst (N:=2) rfl ?_);refine box_event ?hg (N:=2) ?hd (cs:=#[.string a0_0,.int .i64 a0_1,.int .i64 a0_2,.string a0_3,.string a0_4]) (t:=28) ?hr ?_;(case hd=>rfl);(case hg=>rfl);(case hr=>first|(go_simp;done)|(go_simp;rfl));intro gb245 hg w27 hbox hb;have n0_:=Aside0.mk (below_step (by repeat (first|(with_reducible first|exact HB.out|apply below_alloc|apply pw_below_drewN|apply below_drew1)|exact HB.out)) hb);have n1_:=Aside0.mk (hbox);have n2_:=Aside0.mk ((by rw [hg];exact (below_size (by repeat (first|(with_reducible first|exact HB.out|apply below_alloc|apply pw_below_drewN|apply below_drew1)|exact HB.out))) : w.heap.size ≤ gb245));have n3_:=Aside0.mk ((by rw [hg];exact (below_size (by repeat (first|(with_reducible first|exact HB.out|apply below_alloc|apply pw_below_drewN|apply below_drew1)|exact HB.out))) : w.heap.size ≤ gb245));clear HB;have HB:=n0_;have BK245:=n1_;have GW245:=n2_;have GE245:=n3_;clear n0_ n1_ n2_ n3_;clear hb hbox hg)|((with_reducible refine gate_dst (N:=3) rfl ?_);refine box_event ?hg (N:=3) ?hd (cs:=#[.string a1_0,.int .i64 a1_1,.int .i64 a1_2,.string a1_3,.string a1_4]) (t:=28) ?hr ?_;(case hd=>rfl);(case hg=>rfl);(case hr=>first|(go_simp;done)|(go_simp;rfl));intro gb246 hg w28 hbox hb;have n0_:=Aside0.mk (blk_below (g:=gb245) (o:=.cells #[.string a0_0,.int .i64 a0_1,.int .i64 a0_2,.string a0_3,.string a0_4] 28 (0,0)) (by (with_reducible repeat (first|refine blk_drewN ?_ _|refine blk_drew ?_|refine blk_alloc ?_ _));exact BK245.out) hb);have n1_:=Aside0.mk (below_step (by repeat (first|(with_reducible first|exact HB.out|apply below_alloc|apply pw_below_drewN|apply below_drew1|refine below_set ?_ GE245.out)|exact HB.out)) hb);have n2_:=Aside0.mk (hbox);have n3_:=Aside0.mk ((by rw [hg];exact (below_size (by repeat (first|(with_reducible first|exact HB.out|apply below_alloc|apply pw_below_drewN|apply below_drew1|refine below_set ?_ GE245.out)|exact HB.out))) : w.heap.size ≤ gb246));have n4_:=Aside0.mk ((by rw [hg];exact (below_size (by repeat (first|(with_reducible first|exact HB.out|apply below_alloc|apply pw_below_drewN|apply below_drew1|refine below_set ?_ GE245.out)|exact HB.out))) : w.heap.size ≤ gb246));have n5_:=Aside0.mk ((by rw [hg];exact Nat.ne_of_lt (blk_lt (g:=gb245) (o:=.cells #[.string a0_0,.int .i64 a0_1,.int .i64 a0_2,.string a0_3,.string a0_4] 28 (0,0)) (by (with_reducible repeat (first|refine blk_drewN ?_ _|refine blk_drew ?_|refine blk_alloc ?_ _));exact BK245.out)) : gb245 ≠ gb246));have n6_:=Aside0.mk ((by rw [hg];exact Nat.ne_of_gt (blk_lt (g:=gb245) (o:=.cells #[.string a0_0,.int .i64 a0_1,.int .i64 a0_2,.string a0_3,.string a0_4] 28 (0,0)) (by (with_reducible repeat (first|refine blk_drewN ?_ _|refine blk_drew ?_|refine blk_alloc ?_ _));exact BK245.out)) : gb246 ≠ gb245));clear BK245;clear HB;have BK245:=n0_;have HB:=n1_;have BK246:=n2_;have GW246:=n3_;have GE246:=n4_;have NB245_246:=n5_;have NB246_245:=n6_;clear n0_ n1_ n2_ n3_ n4_ n5_ n6_;clear hb hbox hg;have hnb29:=NB245_246.out;have hnc29:=NB246_245.out;have hcz30_0 : w28.cell? ⟨gb245,0,none⟩ = some (.string a0_0):=(blk_cell BK245.out 0).trans rfl;have hcz30_1 : w28.cell? ⟨gb245,1,none⟩ = some (.int .i64 a0_1):=(blk_cell BK245.out 1).trans rfl;have hcz30_2 : w28.cell? ⟨gb245,2,none⟩ = some (.int .i64 a0_2):=(blk_cell BK245.out 2).trans rfl;have hcz30_3 : w28.cell? ⟨gb245,3,none⟩ = some (.string a0_3):=(blk_cell BK245.out 3).trans rfl;have hcz30_4 : w28.cell? ⟨gb245,4,none⟩ = some (.string a0_4):=(blk_cell BK245.out 4).trans rfl;have hfz30_0:=blk_frozen BK245.out 0;have hfz30_1:=blk_frozen BK245.out 1;have hfz30_2:=blk_frozen BK245.out 2;have hfz30_3:=blk_frozen BK245.out 3;have hfz30_4:=blk_frozen BK245.out 4;have hcz31_0 : w28.cell? ⟨gb246,0,none⟩ = some (.string a1_0):=(blk_cell BK246.out 0).trans rfl;have hcz31_1 : w28.cell? ⟨gb246,1,none⟩ = some (.int .i64 a1_1):=(blk_cell BK246.out 1).trans rfl;have hcz31_2 : w28.cell? ⟨gb246,2,none⟩ = some (.int .i64 a1_2):=(blk_cell BK246.out 2).trans rfl;have hcz31_3 : w28.cell? ⟨gb246,3,none⟩ = some (.string a1_3):=(blk_cell BK246.out 3).trans rfl;have hcz31_4 : w28.cell? ⟨gb246,4,none⟩ = some (.string a1_4):=(blk_cell BK246.out 4).trans rfl;have hfz31_0:=blk_frozen BK246.out 0;have hfz31_1:=blk_frozen BK246.out 1;have hfz31_2:=blk_frozen BK246.out 2;have hfz31_3:=blk_frozen BK246.out 3;have hfz31_4:=blk_frozen BK246.out 4))
  go_ret
  exact ⟨by first | rfl|(simp [errW_none,errW_some] <;> rfl)|(simp [*,errW_none,errW_some] <;> rfl),by repeat (first|(with_reducible first|exact HB.out|apply below_alloc|apply pw_below_drewN|apply below_drew1|refine below_set ?_ GE245.out|refine below_set ?_ GE246.out)|exact HB.out)⟩

end Go.Proofs.Ytenmljkddhonmaa.MTbl
