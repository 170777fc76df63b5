import Derived.Test.YtenmljkddhonmaaY8
import Derived.Test.YtenmljkddhonmaaY1
import Derived.Lib.Bytealg
import Derived.Lib.Strings
import Derived.Test.YtenmljkddhonmaaY2
import Derived.Test.YtenmljkddhonmaaY6
import Derived.Test.YtenmljkddhonmaaY7
import Derived.Test.YtenmljkddhonmaaY4
namespace Go.Proofs.Ytenmljkddhonmaa.MTbl
open Go.RowKit Go.Proofs.YtenmljkddhonmaaW.PrintWords Go.Proofs.YtenmljkddhonmaaW.PrintLast Go.Proofs.YtenmljkddhonmaaW.PrintMore
set_option linter.unusedVariables false
set_option linter.unusedSimpArgs false
set_option maxHeartbeats 8000000 in
set_option maxRecDepth 1000000 in
theorem cloneE.calls (A : Option Addr) (c : Nat) (l : List S28) (w : World) (hr : Kd.C k28 w A l.length l) (hc : l.length ≤ c) (hl : l.length ≤ 1000000) :
  Calls Try.prog 63 #[.slice A l.length c] w fun e w'=>∃ v,e = .returned v∧Kd.R k28 28 w' w.heap.size (fun _=>True) v l∧Below w.heap.size w w':=by
 have HR := Aside0.mk hr
 have HL := Aside0.mk hl
 clear hr hl
 have hu28 := Try.underlying28
 cases A with
 | none =>
  have hl0 : l = [] := by
   cases l with
   | nil => rfl
   | cons x t => obtain ⟨_, h, _⟩ := at_T28 HR.out 0 (by omega) (by simp only [List.length_cons]; omega); cases h
  subst hl0
  have he : ∀ W,(binOp .eql 24 (.slice none 0 c) (.slice none 0 0)).run Try.prog W = .ok (.bool true) W:=fun _=>by rfl
  go_enter Try.func63, Try.ntmps63
  go_wp2
  go_ret
  exact ⟨_, rfl, Kd.R_nil _ _ _ _ _, Below.refl _ _⟩
 | some ad =>
  have he : ∀ W,(binOp .eql 24 (.slice (some ad) l.length c) (.slice none 0 0)).run Try.prog W = .ok (.bool false) W:=fun _=>by rfl
  go_enter Try.func63, Try.ntmps63
  go_wp2_with (first | ((with_reducible refine gate_builtin (b:=.append) (xs:=#[.tmp 5,.tmp 6]) rfl ?_);at_builtin;refine Kd.R_append_rows k28 (w0:=w) w.heap.size rfl (.tmp 5) (.tmp 6) 24 28 (.agg #[(.string ⟨#[]⟩),(.int .i64 0),(.int .i64 0),(.string ⟨#[]⟩),(.string ⟨#[]⟩)]) 64 rfl Try.underlying24 info28 rfl (by decide) (by omega) (.slice (some ⟨w.heap.size,0,none⟩) 0 0) [] l (some ad) l.length c (fun _=>True) (fun _=>False) rfl rfl ?aO ?aR (fun _ _ h=>h) (fun _ h=>h.elim) ?aF ?aB ?aS ?aL ?_;(case aO=>exact ⟨fun _ _=>trivial,[],World.ownsRow_made w #[] 0 (Nat.le_refl _) (by simp [maxLen]) rfl,Reps.none _ _⟩);(case aR=>exact Kd.C_alloc HR.out _);(case aF=>exact (fun _ _=>trivial));(case aB=>exact below_alloc (Below.refl _ _) _);(case aS=>simp);(case aL=>have:=HL.out;simp only [List.length_nil];omega);intro v1 w1 ho1 hb1 hg1 hat1;have HO1:=Aside0.mk ho1;have HB1:=Aside0.mk hb1;clear ho1 hb1 hg1 hat1))
  go_ret
  exact ⟨_, rfl, HO1.out, HB1.out⟩
set_option maxHeartbeats 8000000 in
set_option maxRecDepth 1000000 in
theorem table_All_nil.calls (w : World) : Calls Try.prog 31 #[.pointer none] w fun e w'=>e = .returned (.tuple #[.slice none 0 0,.int .i64 11])∧w' = w:=by
 go_enter Try.func31, Try.ntmps31
 go_wp2
 go_ret2
 exact ⟨rfl, rfl⟩
set_option maxHeartbeats 8000000 in
set_option maxRecDepth 1000000 in
theorem table_From_nil.calls (w : World) (s : ByteArray) : Calls Try.prog 28 #[.pointer none,.string s] w fun e w'=>e = .returned (.tuple #[.slice none 0 0,.int .i64 11])∧Below w.heap.size w w':=by
 go_enter Try.func28, Try.ntmps28
 go_wp2
 go_ret2
 exact ⟨rfl, by repeat (first | exact Below.refl _ _ | apply below_alloc | apply pw_below_drewN | apply below_drew1)⟩
set_option maxHeartbeats 8000000 in
set_option maxRecDepth 1000000 in
theorem table_All.calls (w : World) (g : Nat) (l : List S28) (flt : List Int) (bl : Nat) (hI : TabI w g l flt bl) (hl : l.length ≤ 1000000) : Calls Try.prog 31 #[.pointer (some ⟨g,0,none⟩)] w fun e w'=>∃ v,e = .returned (.tuple #[v,.int .i64 0])∧Kd.R k28 28 w' w.heap.size (fun _=>True) v l∧Below w.heap.size w w':=by
 obtain ⟨A, c, A2, c2, h1, h2, h3, -⟩ := hI
 have hc0 := (blk_cell h1 0).trans rfl
 clear h1
 have HQ := Aside0.mk (cloneE.calls A c l w h2 h3 hl)
 clear h2
 go_enter Try.func31, Try.ntmps31
 go_wp2_with (go_at_call 63;refine HQ.out.mono ?_;rintro e w' ⟨v,rfl,hR,hB⟩;have HR:=Aside0.mk hR;have HB:=Aside0.mk hB;clear hR hB)
 go_ret2
 exact ⟨_, rfl, HR.out, HB.out⟩
set_option maxHeartbeats 8000000 in
set_option maxRecDepth 1000000 in
theorem sort_SearchF.calls (cb : Array Value) (n : Nat) (p : Nat → Bool) (w : World) (hsz : n < 4611686018427387904)
  (hf : ∀ (w1 : World) (i : Nat),Below w.heap.size w w1 → i < n → Calls Try.prog 62 (#[.int .i64 i] ++ cb) w1 fun e w'=>e = .returned (.bool (p i))∧Below w1.heap.size w1 w') :
  Calls Try.prog 61 #[.int .i64 n,.func (.func 62) #[] cb] w fun e w'=>e = .returned (.int .i64 (bsearch p n 0 n : Nat))∧Below w.heap.size w w':=by
 have HF := Aside0.mk hf
 clear hf
 generalize hcnt : bsearch p n 0 n = cnt
 have CN := Aside0.mk hcnt
 clear hcnt
 go_enter Try.func61, Try.ntmps61
 go_wp2
 go_loopg [5,6] n (fun kx s5 s6 wr=>∃ (lo hi : Nat),s5 = .int .i64 lo∧s6 = .int .i64 hi∧lo ≤ hi∧hi ≤ n∧hi - lo ≤ kx∧Aside0 (Below w.heap.size w wr)∧Aside0 (bsearch p kx lo hi = cnt))
 case atStart => exact ⟨0, n, rfl, rfl, Nat.zero_le _, Nat.le_refl _, by omega, ⟨Below.refl _ _⟩, CN⟩
 case round =>
  obtain ⟨lo, hi, rfl, rfl, hlh, hin, hg, HB, I⟩ := hrel
  by_cases hlt : lo < hi
  ·cases gk with
   | zero => omega
   | succ k1 =>
   have I2 := I.out
   unfold bsearch at I2
   rw [if_pos hlt] at I2
   clear I
   have hc := HF.out wr ((lo + hi) / 2) HB.out (by omega)
   rw [show (((lo + hi) / 2 : Nat) : Int) = ((lo : Int) + (hi : Int)) / 2 by omega] at hc
   cases hp : p ((lo + hi) / 2) <;> rw [hp] at hc I2
   ·have I3 : Aside0 (bsearch p k1 ((lo + hi) / 2 + 1) hi = cnt) := ⟨by simpa using I2⟩
    clear hp I2
    go_wp2_with (go_at_call 62;refine hc.mono ?_;rintro e w' ⟨rfl,hb⟩;have HB2:=Aside0.mk (below_step HB.out hb);clear hb)
    go_roundg k1
    case measure => omega
    case rel=>exact ⟨(lo + hi) / 2 + 1,hi,by rw [show ((lo : Int) + (hi : Int)) / 2 + 1 = (((lo + hi) / 2 + 1 : Nat) : Int) by omega],rfl,by omega,hin,by omega,HB2,I3⟩
   ·have I3 : Aside0 (bsearch p k1 lo ((lo + hi) / 2) = cnt) := ⟨by simpa using I2⟩
    clear hp I2
    go_wp2_with (go_at_call 62;refine hc.mono ?_;rintro e w' ⟨rfl,hb⟩;have HB2:=Aside0.mk (below_step HB.out hb);clear hb)
    go_roundg k1
    case measure => omega
    case rel=>exact ⟨lo,(lo + hi) / 2,rfl,by rw [show ((lo : Int) + (hi : Int)) / 2 = (((lo + hi) / 2 : Nat) : Int) by omega],by omega,by omega,by omega,HB2,I3⟩
  ·obtain rfl : hi = lo := by omega
   have ecnt : cnt = hi := by
    have I2 := I.out
    cases gk with
    | zero => exact I2.symm
    | succ k1 => unfold bsearch at I2; rw [if_neg (by omega)] at I2; exact I2.symm
   subst ecnt
   go_wp2
   go_ret
   exact ⟨rfl, HB.out⟩

/-- What the closure of From says at a place. -/
def fromAt (l : List S28) (a1 : ByteArray) (i : Nat) : Bool := !Op.bytesLess (rd_T28 l i).f0.toList a1.toList
attribute [local go_sem] binOp_string_geq_
set_option maxHeartbeats 8000000 in
set_option maxRecDepth 1000000 in
theorem table_From_closure.calls (bt bn g : Nat) (l : List S28) (flt : List Int) (bl : Nat) (a1 : ByteArray) (i : Nat) (w : World) (hi : i < l.length) (hI : TabI w g l flt bl)
  (ha : w.cell? ⟨bt,0,none⟩ = some (.pointer (some ⟨g,0,none⟩))) (hn : w.cell? ⟨bn,0,none⟩ = some (.string a1)) :
  Calls Try.prog 62 (#[.int .i64 i] ++ #[.pointer (some ⟨bt,0,none⟩),.pointer (some ⟨bn,0,none⟩)]) w fun e w'=>e = .returned (.bool (fromAt l a1 i))∧Below w.heap.size w w':=by
 have hu28 := Try.underlying28
 obtain ⟨A, c, A2, c2, hh1, hh2, hh3, -⟩ := hI
 have hc0 := (blk_cell hh1 0).trans rfl
 clear hh1
 obtain ⟨ad, rfl, h0, _, _, _, _⟩ := at_T28 hh2 (i : Int) (by omega) (by omega)
 have p1 : ((0 : Int) ≤ (i : Int)) = True := eq_true (by omega)
 have p2 : ((i : Int) < (l.length : Int)) = True := eq_true (by omega)
 have p3 : (i < l.length) = True := eq_true hi
 clear hh2
 rw [Int.toNat_natCast] at h0
 unfold fromAt
 generalize (rd_T28 l (i : Int)).f0 = x at h0 ⊢
 cases hg : Op.bytesLess x.toList a1.toList
 all_goals go_enter Try.func62, Try.ntmps62
 all_goals go_wp2
 all_goals go_region
 all_goals go_wp2
 all_goals go_ret
 all_goals exact ⟨by first | rfl | simp [hg],by repeat (first | exact Below.refl _ _ | apply below_alloc | apply pw_below_drewN | apply below_drew1)⟩
end Go.Proofs.Ytenmljkddhonmaa.MTbl

namespace Go.Proofs.Ytenmljkddhonmaa.MTbl
open Go.RowKit Go.Proofs.YtenmljkddhonmaaW.PrintWords Go.Proofs.YtenmljkddhonmaaW.PrintLast Go.Proofs.YtenmljkddhonmaaW.PrintMore
set_option linter.unusedVariables false
set_option linter.unusedSimpArgs false
set_option maxHeartbeats 8000000 in
set_option maxRecDepth 1000000 in
theorem table_From.calls (w : World) (g : Nat) (l : List S28) (flt : List Int) (bl : Nat) (s : ByteArray) (hI : TabI w g l flt bl) (hl : l.length ≤ 1000000) : Calls Try.prog 28 #[.pointer (some ⟨g,0,none⟩),.string s] w fun e w'=>∃ v,e = .returned (.tuple #[v,.int .i64 0])∧Kd.R k28 28 w' w.heap.size (fun _=>True) v (l.drop (bsearch (fromAt l s) l.length 0 l.length))∧Below w.heap.size w w':=by
 obtain ⟨W0,hW0⟩ : ∃ W0,W0 = (w.alloc (.cells #[.pointer (some ⟨g,0,none⟩)] 50)).alloc (.cells #[.string s] 9):=⟨_,rfl⟩
 have hB0 : Below w.heap.size w W0 := by rw [hW0]; exact below_alloc (below_alloc (Below.refl _ _) _) _
 have hsize : W0.heap.size = w.heap.size + 1 + 1 := by rw [hW0]; simp
 have ca : W0.cell? ⟨w.heap.size,0,none⟩ = some (.pointer (some ⟨g,0,none⟩)):=by rw [hW0];exact cell_alloc_ _ (cell_new_ w _ _)
 have cn : W0.cell? ⟨w.heap.size + 1, 0, none⟩ = some (.string s) := by
  rw [hW0];have:=cell_new_ (w.alloc (.cells #[.pointer (some ⟨g,0,none⟩)] 50)) (.string s) 9;rw [World.size_alloc] at this;exact this
 have hS:=sort_SearchF.calls #[.pointer (some ⟨w.heap.size,0,none⟩),.pointer (some ⟨w.heap.size + 1,0,none⟩)] l.length (fromAt l s) W0 (by omega)
  (fun w1 i hb hi=>table_From_closure.calls w.heap.size (w.heap.size + 1) g l flt bl s i w1 hi ((hI.below hB0).below hb) ((hb.cell (show w.heap.size < W0.heap.size by omega)).trans ca) ((hb.cell (show w.heap.size + 1 < W0.heap.size by omega)).trans cn))
 have hle := bsearch_le (fromAt l s) l.length 0 l.length (Nat.zero_le _)
 generalize bsearch (fromAt l s) l.length 0 l.length = at_ at hS hle ⊢
 have HB0 := Aside0.mk hB0
 have hI0 := hI.below hB0
 clear hI hB0
 obtain ⟨A, c, A2, c2, h1, h2, h3, -⟩ := hI0
 have hc0 := (blk_cell h1 0).trans rfl
 obtain ⟨i0, hi0, _, hsz, _⟩ := info_parts info28
 have hcut := cut_from (P := Try.prog) 24 28 .i64 Try.underlying24 hi0 5 hsz A l.length c at_ (by omega) (by omega)
 have hr := Kd.C_drop (m := at_) (c := c) h2 hle h3
 have hsz1 : k28.sz = 5 := rfl
 obtain ⟨A1, hA1⟩ : ∃ A1, Aside0 (A1 = (if c = at_ then A else A.map (·.add (at_ * 5)))) := ⟨_, ⟨rfl⟩⟩
 obtain ⟨c1, hc1_⟩ : ∃ c1, Aside0 (c1 = c - at_) := ⟨_, ⟨rfl⟩⟩
 have hy : (l.drop at_).length = l.length - at_ := List.length_drop
 rw [hsz1] at hr
 simp only [Int.toNat_natCast] at hcut
 rw [← hA1.out, ← hc1_.out, ← hy] at hcut
 have HR1 := Aside0.mk (show Kd.C k28 W0 A1 (l.drop at_).length (l.drop at_) by rw [hA1.out]; exact hr)
 have HL1 : Aside0 ((l.drop at_).length ≤ c1) := ⟨by rw [hc1_.out, hy]; omega⟩
 have HM : Aside0 ((l.drop at_).length ≤ 1000000) := ⟨by rw [hy]; omega⟩
 clear hr hy h2
 have hlt1 := World.block_lt_of_cell? W0 _ hc0
 generalize l.drop at_ = l1 at hcut HR1 HL1 HM ⊢
 have hc0x := hc0
 rw [hW0] at hc0x
 clear h1
 go_enter Try.func28, Try.ntmps28
 go_wp2_with (first | (go_at_call 61;rw [← hW0];refine hS.mono ?_;rintro e w' ⟨rfl,hb⟩;have HB:=Aside0.mk (below_step HB0.out hb);have HB1:=Aside0.mk hb;have ca2:=(hb.cell (show w.heap.size < W0.heap.size by omega)).trans ca;have hc02:=(hb.cell hlt1).trans hc0;clear hb) | (go_at_call 63;refine (cloneE.calls A1 c1 l1 _ (Kd.C_below HR1.out HB1.out) HL1.out HM.out).mono ?_;rintro e w' ⟨v,rfl,hR,hB⟩;have HR:=Aside0.mk (Kd.R_lower hR (base':=w.heap.size) HB.out.size);have HB2:=Aside0.mk (below_step HB.out hB);clear hR hB))
 go_ret2
 exact ⟨_, rfl, HR.out, HB2.out⟩
set_option maxHeartbeats 8000000 in
set_option maxRecDepth 1000000 in
theorem table_Get_nil.calls (w : World) (s : ByteArray) (q : Int) : Calls Try.prog 24 #[.pointer none,.string s,.int .i64 q] w fun e w'=>e = .returned (.tuple #[.agg #[.string ⟨#[]⟩,.int .i64 0,.int .i64 0,.string ⟨#[]⟩,.string ⟨#[]⟩],.bool false,.int .i64 11])∧Below w.heap.size w w':=by
 have hu28 := Try.underlying28
 go_enter Try.func24, Try.ntmps24
 go_wp2
 refine bodyPost_ret (results_ctt rfl _ _ w.heap.size 28 #[.string ⟨#[]⟩,.int .i64 0,.int .i64 0,.string ⟨#[]⟩,.string ⟨#[]⟩] (0,0) _ rfl (by repeat (first | exact heap_new_ w _ | refine blk_drewN ?_ _ | refine blk_drew ?_ | refine blk_alloc ?_ _)) Try.underlying28 rfl rfl) rfl ?_
 exact ⟨by first | rfl | simp,by repeat (first | exact Below.refl _ _ | apply below_alloc | apply pw_below_drewN | apply below_drew1)⟩
set_option maxHeartbeats 8000000 in
set_option maxRecDepth 1000000 in
theorem table_Get.calls (k : Nat) (w : World) (g : Nat) (l : List S28) (flt : List Int) (bl : Nat) (s : ByteArray) (q : Int) (rb : Bool) (r1 : ByteArray) (r2 r3 : Int) (r4 r5 : ByteArray) (r6 : Bool) (hI : TabI w g l flt bl)
  (hb : bloom_May.f k flt s = some rb) (hf : ikey_Find.f l s q = some (r1, r2, r3, r4, r5, r6)) :
  Calls Try.prog 24 #[.pointer (some ⟨g,0,none⟩),.string s,.int .i64 q] w fun e w'=>e = .returned (.tuple #[.agg (if rb = true then #[.string r1,.int .i64 r2,.int .i64 r3,.string r4,.string r5] else #[.string ⟨#[]⟩,.int .i64 0,.int .i64 0,.string ⟨#[]⟩,.string ⟨#[]⟩]),.bool (rb && r6),.int .i64 0])∧Below w.heap.size w w':=by
 have hu28 := Try.underlying28
 obtain ⟨W0,hW0⟩ : ∃ W0,W0 = w.alloc (.cells #[.string ⟨#[]⟩,.int .i64 0,.int .i64 0,.string ⟨#[]⟩,.string ⟨#[]⟩] 28):=⟨_,rfl⟩
 have hB0 : Below w.heap.size w W0 := by rw [hW0]; exact below_alloc (Below.refl _ _) _
 have hsize : W0.heap.size = w.heap.size + 1 := by rw [hW0]; simp
 have hz : W0.heap[w.heap.size]? = some (.cells #[.string ⟨#[]⟩,.int .i64 0,.int .i64 0,.string ⟨#[]⟩,.string ⟨#[]⟩] 28 (0,0)):=by rw [hW0];exact heap_new_ w _
 have hI0 := hI.below hB0
 clear hI
 obtain ⟨A, c, A2, c2, h1, h2, h3, h4, h5⟩ := hI0
 have hc0 := (blk_cell h1 0).trans rfl
 have hc1 := (blk_cell h1 1).trans rfl
 have hlt1 := World.block_lt_of_cell? W0 _ hc0
 clear h1
 have hc0x := hc0
 have hc1x := hc1
 rw [hW0] at hc0x hc1x
 have HB0 := Aside0.mk hB0
 have HQ := Aside0.mk (bloom_May.calls k A2 c2 flt s rb W0 h4 h5 hb)
 have HF:=Aside0.mk (fun (w2 : World) (hb2 : Below W0.heap.size W0 w2)=>ikey_Find.calls A c l s q r1 r2 r3 r4 r5 r6 w2 (Kd.C_below h2 hb2) h3 hf)
 clear hB0 h2 h4 hb hf
 cases rb with
 | false =>
  go_enter Try.func24, Try.ntmps24
  go_wp2_with (go_at_call 59;rw [← hW0];refine HQ.out.mono ?_;rintro e w2 ⟨rfl,hb⟩;have HB:=Aside0.mk (below_step HB0.out hb);have hz2:=(hb.block w.heap.size (by omega)).trans hz;have z0:=(blk_cell hz2 0).trans rfl;have f0:=blk_frozen hz2 0;have z1:=(blk_cell hz2 1).trans rfl;have f1:=blk_frozen hz2 1;have z2:=(blk_cell hz2 2).trans rfl;have f2:=blk_frozen hz2 2;have z3:=(blk_cell hz2 3).trans rfl;have f3:=blk_frozen hz2 3;have z4:=(blk_cell hz2 4).trans rfl;have f4:=blk_frozen hz2 4;clear hb)
  repeat (go_quiet (fail); try go_wp2)
  refine bodyPost_ret (results_ctt rfl _ _ w.heap.size 28 #[.string ⟨#[]⟩,.int .i64 0,.int .i64 0,.string ⟨#[]⟩,.string ⟨#[]⟩] (0,0) _ rfl (by (with_reducible repeat (first | refine blk_drewN ?_ _ | refine blk_drew ?_ | refine blk_alloc ?_ _));refine blk_put (cs:=#[.string ⟨#[]⟩,.int .i64 0,.int .i64 0,.string ⟨#[]⟩,.string ⟨#[]⟩]) ?_ 4 _ rfl;(with_reducible repeat (first | refine blk_drewN ?_ _ | refine blk_drew ?_ | refine blk_alloc ?_ _));refine blk_put (cs:=#[.string ⟨#[]⟩,.int .i64 0,.int .i64 0,.string ⟨#[]⟩,.string ⟨#[]⟩]) ?_ 3 _ rfl;(with_reducible repeat (first | refine blk_drewN ?_ _ | refine blk_drew ?_ | refine blk_alloc ?_ _));refine blk_put (cs:=#[.string ⟨#[]⟩,.int .i64 0,.int .i64 0,.string ⟨#[]⟩,.string ⟨#[]⟩]) ?_ 2 _ rfl;(with_reducible repeat (first | refine blk_drewN ?_ _ | refine blk_drew ?_ | refine blk_alloc ?_ _));refine blk_put (cs:=#[.string ⟨#[]⟩,.int .i64 0,.int .i64 0,.string ⟨#[]⟩,.string ⟨#[]⟩]) ?_ 1 _ rfl;(with_reducible repeat (first | refine blk_drewN ?_ _ | refine blk_drew ?_ | refine blk_alloc ?_ _));refine blk_put (cs:=#[.string ⟨#[]⟩,.int .i64 0,.int .i64 0,.string ⟨#[]⟩,.string ⟨#[]⟩]) ?_ 0 _ rfl;(with_reducible repeat (first | refine blk_drewN ?_ _ | refine blk_drew ?_ | refine blk_alloc ?_ _));exact hz2) Try.underlying28 rfl rfl) rfl ?_
  exact ⟨by first | rfl | simp,by repeat (first | exact HB.out | refine below_set ?_ (by omega) | apply below_alloc | apply pw_below_drewN | apply below_drew1)⟩
 | true =>
  go_enter Try.func24, Try.ntmps24
  go_wp2_with (first | (go_at_call 59;rw [← hW0];refine HQ.out.mono ?_;rintro e w1 ⟨rfl,hb⟩;have HB1:=Aside0.mk hb;have hc02:=(hb.cell hlt1).trans hc0;clear hb) | (go_at_call 60;refine (HF.out _ HB1.out).mono ?_;rintro e w2 ⟨rfl,hb⟩;have HB2:=Aside0.mk (below_step HB1.out hb);have HB:=Aside0.mk (below_step HB0.out HB2.out);have hz2:=(HB2.out.block w.heap.size (by omega)).trans hz;have hz3:=blk_alloc hz2 (.cells #[.string r1,.int .i64 r2,.int .i64 r3,.string r4,.string r5] 28);have z0:=(blk_cell hz3 0).trans rfl;have f0:=blk_frozen hz3 0;have z1:=(blk_cell hz3 1).trans rfl;have f1:=blk_frozen hz3 1;have z2:=(blk_cell hz3 2).trans rfl;have f2:=blk_frozen hz3 2;have z3:=(blk_cell hz3 3).trans rfl;have f3:=blk_frozen hz3 3;have z4:=(blk_cell hz3 4).trans rfl;have f4:=blk_frozen hz3 4;clear hb))
  repeat (go_quiet (fail); try go_wp2)
  refine bodyPost_ret (results_ctt rfl _ _ w.heap.size 28 #[.string r1,.int .i64 r2,.int .i64 r3,.string r4,.string r5] (0,0) _ rfl (by (with_reducible repeat (first | refine blk_drewN ?_ _ | refine blk_drew ?_ | refine blk_alloc ?_ _));refine blk_put (cs:=#[.string r1,.int .i64 r2,.int .i64 r3,.string r4,.string ⟨#[]⟩]) ?_ 4 _ rfl;(with_reducible repeat (first | refine blk_drewN ?_ _ | refine blk_drew ?_ | refine blk_alloc ?_ _));refine blk_put (cs:=#[.string r1,.int .i64 r2,.int .i64 r3,.string ⟨#[]⟩,.string ⟨#[]⟩]) ?_ 3 _ rfl;(with_reducible repeat (first | refine blk_drewN ?_ _ | refine blk_drew ?_ | refine blk_alloc ?_ _));refine blk_put (cs:=#[.string r1,.int .i64 r2,.int .i64 0,.string ⟨#[]⟩,.string ⟨#[]⟩]) ?_ 2 _ rfl;(with_reducible repeat (first | refine blk_drewN ?_ _ | refine blk_drew ?_ | refine blk_alloc ?_ _));refine blk_put (cs:=#[.string r1,.int .i64 0,.int .i64 0,.string ⟨#[]⟩,.string ⟨#[]⟩]) ?_ 1 _ rfl;(with_reducible repeat (first | refine blk_drewN ?_ _ | refine blk_drew ?_ | refine blk_alloc ?_ _));refine blk_put (cs:=#[.string ⟨#[]⟩,.int .i64 0,.int .i64 0,.string ⟨#[]⟩,.string ⟨#[]⟩]) ?_ 0 _ rfl;(with_reducible repeat (first | refine blk_drewN ?_ _ | refine blk_drew ?_ | refine blk_alloc ?_ _));exact hz2) Try.underlying28 rfl rfl) rfl ?_
  exact ⟨by first | rfl | simp,by repeat (first | exact HB.out | refine below_set ?_ (by omega) | apply below_alloc | apply pw_below_drewN | apply below_drew1)⟩
end Go.Proofs.Ytenmljkddhonmaa.MTbl

/- Plain words for all. -/
namespace Go.Proofs.Ytenmljkddhonmaa.QTbl
open Go.RowKit Go.Proofs.Ytenmljkddhonmaa.MTbl Go.Proofs.YtenmljkddhonmaaW.PrintWords Go.Proofs.YtenmljkddhonmaaW.PrintLast Go.Proofs.YtenmljkddhonmaaW.PrintMore
set_option linter.unusedVariables false
set_option linter.unusedSimpArgs false

theorem wrap64_id {n : Int} (h0 : -9223372036854775808 ≤ n) (h1 : n ≤ 9223372036854775807) : wrap64 n = n := by
 unfold wrap64; omega
theorem u64_id {n : Int} (h0 : 0 ≤ n) (h1 : n < 18446744073709551616) : IntKind.u64.wrap n = n := by
 simp only [IntKind.wrap, IntKind.signed, IntKind.bits, Bool.false_and, Bool.false_eq_true, if_false]
 omega

theorem Ev.ite_pos {α : Type} {c : Prop} [Decidable c] {a b : Nat → Option α} {r : α} (hc : c) (h : Ev a r) : Ev (fun k=>if c then a k else b k) r :=
 Ev.congr (fun _ => if_pos hc) h
theorem Ev.ite_neg {α : Type} {c : Prop} [Decidable c] {a b : Nat → Option α} {r : α} (hc : ¬ c) (h : Ev b r) : Ev (fun k=>if c then a k else b k) r :=
 Ev.congr (fun _ => if_neg hc) h
theorem Ev.succ {α : Type} {g : Nat → Option α} {r : α} (h : Ev (fun k=>g (k + 1)) r) : Ev g r:=Ev.step (fun _=>rfl) h
theorem Ev.same {α : Type} {a : Option α} {r : α} (h : a = some r) : Ev (fun _ => a) r := ⟨0, fun _ _ => h⟩

theorem rd_nat (l : List Int) (i : Nat) : rd l (i : Int) = l.getD i 0 := by unfold rd; rw [Int.toNat_natCast]
end Go.Proofs.Ytenmljkddhonmaa.QTbl

/- What Cut leaves. -/
namespace Go.Proofs.Ytenmljkddhonmaa.QTbl
open Go.RowKit Go.Proofs.Ytenmljkddhonmaa.MTbl Go.Proofs.Ytenmljkddhonmaa.QTbl Go.Proofs.YtenmljkddhonmaaW.PrintWords Go.Proofs.YtenmljkddhonmaaW.PrintLast Go.Proofs.YtenmljkddhonmaaW.PrintMore
set_option linter.unusedVariables false
set_option linter.unusedSimpArgs false
end Go.Proofs.Ytenmljkddhonmaa.QTbl

/- The order of entries as one Bool: it goes on, and is total. -/
namespace Go.Proofs.Ytenmljkddhonmaa.QTbl
open Go.RowKit Go.Proofs.Ytenmljkddhonmaa.MTbl Go.Proofs.Ytenmljkddhonmaa.QTbl Go.Proofs.YtenmljkddhonmaaW.PrintWords Go.Proofs.YtenmljkddhonmaaW.PrintLast Go.Proofs.YtenmljkddhonmaaW.PrintMore
set_option linter.unusedVariables false
set_option linter.unusedSimpArgs false
/-- The order, as one Bool. -/
def lt3 (a0 : ByteArray) (a1 a2 : Int) (b0 : ByteArray) (b1 b2 : Int) : Bool:=if a0.toList = b0.toList then (if a1 = b1 then decide (a2 > b2) else decide (a1 > b1)) else Op.bytesLess a0.toList b0.toList
theorem bl_irrefl : ∀ l : List UInt8, Op.bytesLess l l = false
 | [] => rfl
 | x :: t => by simp [Op.bytesLess, bl_irrefl t, UInt8.lt_irrefl]
theorem bl_total : ∀ a b : List UInt8, a ≠ b → (Op.bytesLess b a = !(Op.bytesLess a b))
 | [], [], h => absurd rfl h
 | [], _ :: _, _ => by simp [Op.bytesLess]
 | _ :: _, [], _ => by simp [Op.bytesLess]
 | x :: a, y :: b, h => by
  unfold Op.bytesLess
  by_cases e : x = y
  ·subst e
   have := bl_total a b (fun z => h (by rw [z]))
   simp [UInt8.lt_irrefl, this]
  ·by_cases l : x < y
   ·have : ¬ y < x := fun z => UInt8.lt_asymm l z
    simp [l, this, e, Ne.symm e]
   ·have l2 : y < x := UInt8.lt_of_le_of_ne (UInt8.not_lt.1 l) (Ne.symm e)
    simp [l, l2, e, Ne.symm e]
theorem bl_trans : ∀ a b c : List UInt8, Op.bytesLess a b = true → Op.bytesLess b c = true → Op.bytesLess a c = true
 | _, [], _, h, _ => by simp [Op.bytesLess] at h
 | _, _ :: _, [], _, h => by simp [Op.bytesLess] at h
 | [], _ :: _, _ :: _, _, _ => by simp [Op.bytesLess]
 | x :: a, y :: b, z :: c, h1, h2 => by
  simp only [Op.bytesLess, Bool.or_eq_true, decide_eq_true_eq, Bool.and_eq_true, beq_iff_eq] at h1 h2 ⊢
  rcases h1 with h1 | ⟨rfl, h1⟩
  ·rcases h2 with h2 | ⟨rfl, h2⟩
   ·exact .inl (UInt8.lt_trans h1 h2)
   ·exact .inl h1
  ·rcases h2 with h2 | ⟨rfl, h2⟩
   ·exact .inl h2
   ·exact .inr ⟨rfl, bl_trans a b c h1 h2⟩
theorem lt3_trans {a0 b0 c0 : ByteArray} {a1 a2 b1 b2 c1 c2 : Int} (h1 : lt3 a0 a1 a2 b0 b1 b2 = true) (h2 : lt3 b0 b1 b2 c0 c1 c2 = true) : lt3 a0 a1 a2 c0 c1 c2 = true:=by
 unfold lt3 at *
 by_cases e1 : a0.toList = b0.toList
 ·rw [if_pos e1] at h1
  rw [e1]
  by_cases e2 : b0.toList = c0.toList
  ·rw [if_pos e2] at h2 ⊢
   by_cases f1 : a1 = b1
   ·rw [if_pos f1] at h1
    by_cases f2 : b1 = c1
    ·rw [if_pos f2] at h2
     rw [if_pos (by omega)]
     simp only [decide_eq_true_eq] at *; omega
    ·rw [if_neg f2] at h2
     rw [if_neg (by omega)]
     simp only [decide_eq_true_eq] at *; omega
   ·rw [if_neg f1] at h1
    by_cases f2 : b1 = c1
    ·rw [if_neg (by omega)]
     simp only [decide_eq_true_eq] at *; omega
    ·rw [if_neg f2] at h2
     simp only [decide_eq_true_eq] at *
     rw [if_neg (by omega)]
     simp only [decide_eq_true_eq]; omega
  ·rw [if_neg e2] at h2 ⊢; exact h2
 ·rw [if_neg e1] at h1
  by_cases e2 : b0.toList = c0.toList
  ·rw [← e2, if_neg e1]; exact h1
  ·rw [if_neg e2] at h2
   have h3 := bl_trans _ _ _ h1 h2
   have e3 : ¬ a0.toList = c0.toList := fun z => by rw [z, bl_irrefl] at h3; cases h3
   rw [if_neg e3]; exact h3
theorem lt3_swap (a0 : ByteArray) (a1 a2 : Int) (b0 : ByteArray) (b1 b2 : Int) (h : ¬ (a0.toList = b0.toList∧a1 = b1∧a2 = b2)) : lt3 b0 b1 b2 a0 a1 a2 = !(lt3 a0 a1 a2 b0 b1 b2):=by
 unfold lt3
 by_cases e : a0.toList = b0.toList
 ·rw [if_pos e, if_pos e.symm]
  by_cases f : a1 = b1
  ·rw [if_pos f, if_pos f.symm]
   have g : a2 ≠ b2 := fun z => h ⟨e, f, z⟩
   by_cases l : a2 > b2
   ·rw [decide_eq_true l, decide_eq_false (by omega)]; rfl
   ·rw [decide_eq_false l, decide_eq_true (by omega)]; rfl
  ·rw [if_neg f, if_neg (Ne.symm f)]
   by_cases l : a1 > b1
   ·rw [decide_eq_true l, decide_eq_false (by omega)]; rfl
   ·rw [decide_eq_false l, decide_eq_true (by omega)]; rfl
 ·rw [if_neg e, if_neg (Ne.symm e)]
  exact bl_total _ _ e
theorem rLess_lt3 (a0 : ByteArray) (a1 a2 : Int) (a3 a4 : ByteArray) (b0 : ByteArray) (b1 b2 : Int) (b3 b4 : ByteArray) : incipitref12_Less.f a0 a1 a2 a3 a4 b0 b1 b2 b3 b4 = some (lt3 a0 a1 a2 b0 b1 b2):=by
 unfold incipitref12_Less.f lt3
 by_cases e : a0.toList = b0.toList
 ·rw [if_pos e, if_pos e]
  by_cases f : a1 = b1
  ·rw [if_pos f, if_pos f]
  ·rw [if_neg f, if_neg f]
 ·rw [if_neg e, if_neg e]
end Go.Proofs.Ytenmljkddhonmaa.QTbl

/- Entries come into sorted ones: incipitref12.Into, incipitlaw7.Sort, CutAll. -/
namespace Go.Proofs.Ytenmljkddhonmaa.QTbl
open Go.RowKit Go.Proofs.Ytenmljkddhonmaa.MTbl Go.Proofs.Ytenmljkddhonmaa.QTbl Go.Proofs.YtenmljkddhonmaaW.PrintWords Go.Proofs.YtenmljkddhonmaaW.PrintLast Go.Proofs.YtenmljkddhonmaaW.PrintMore
set_option linter.unusedVariables false
set_option linter.unusedSimpArgs false
def ltS (a b : S28) : Bool := lt3 a.f0 a.f1 a.f2 b.f0 b.f1 b.f2
/-- Sorted, and no two of one form and number. -/
def srtR (a b : S28) : Prop := ltS a b = true ∧ ¬ (a.f0.toList = b.f0.toList ∧ a.f1 = b.f1)
def ins (e : S28) : List S28 → List S28
 | [] => [e]
 | x :: t => if ltS e x = true then e :: x :: t else x :: ins e t
theorem ins_length (e : S28) : ∀ l, (ins e l).length = l.length + 1
 | [] => rfl
 | x :: t => by unfold ins; split <;> simp [ins_length e t]
theorem mem_ins (e x : S28) : ∀ l, x ∈ ins e l ↔ x = e ∨ x ∈ l
 | [] => by simp [ins]
 | y :: t => by
  unfold ins; split
  ·simp
  ·simp only [List.mem_cons, mem_ins e x t]
   constructor
   ·rintro (h | h | h)
    ·exact .inr (.inl h)
    ·exact .inl h
    ·exact .inr (.inr h)
   ·rintro (h | h | h)
    ·exact .inr (.inl h)
    ·exact .inl h
    ·exact .inr (.inr h)
def dupB (e x : S28) : Bool := (x.f0.toList == e.f0.toList) && (x.f1 == e.f1)
theorem dupB_false {e x : S28} (h : dupB e x = false) : ¬ (x.f0.toList = e.f0.toList ∧ x.f1 = e.f1) := by
 rintro ⟨h1, h2⟩
 simp [dupB, h1, h2] at h
theorem ltS_trans {a b c : S28} (h1 : ltS a b = true) (h2 : ltS b c = true) : ltS a c = true := lt3_trans h1 h2
theorem srtR_trans {a b c : S28} (h1 : srtR a b) (h2 : srtR b c) : srtR a c := by
 refine ⟨ltS_trans h1.1 h2.1, fun h => ?_⟩
 obtain ⟨a1, a2⟩ := h1
 obtain ⟨b1, b2⟩ := h2
 unfold ltS lt3 at a1 b1
 by_cases e1 : a.f0.toList = b.f0.toList
 ·rw [if_pos e1] at a1
  have e2 : b.f0.toList = c.f0.toList := e1.symm.trans h.1
  rw [if_pos e2] at b1
  have f1 : ¬ a.f1 = b.f1 := fun z => a2 ⟨e1, z⟩
  have f2 : ¬ b.f1 = c.f1 := fun z => b2 ⟨e2, z⟩
  rw [if_neg f1] at a1
  rw [if_neg f2] at b1
  have := h.2
  simp only [decide_eq_true_eq] at a1 b1
  omega
 ·rw [if_neg e1] at a1
  have e2 : ¬ b.f0.toList = c.f0.toList := fun z => e1 (h.1.trans z.symm)
  rw [if_neg e2] at b1
  have := bl_trans _ _ _ a1 b1
  rw [h.1, bl_irrefl] at this
  cases this
theorem ins_sorted (e : S28) : ∀ l : List S28, l.Pairwise srtR → (∀ x ∈ l, dupB e x = false) → (ins e l).Pairwise srtR
 | [], _, _ => by simp [ins]
 | x :: t, hl, hd => by
  obtain ⟨h1, h2⟩ := List.pairwise_cons.1 hl
  have hx := dupB_false (hd x (List.mem_cons_self ..))
  unfold ins; split
  ·next c =>
   have r : srtR e x := ⟨c, fun h => hx ⟨h.1.symm, h.2.symm⟩⟩
   refine List.pairwise_cons.2 ⟨fun y hy => ?_, hl⟩
   rcases List.mem_cons.1 hy with rfl | hy
   ·exact r
   ·exact srtR_trans r (h1 y hy)
  ·next c =>
   have r : srtR x e := by
    refine ⟨?_, hx⟩
    have := lt3_swap e.f0 e.f1 e.f2 x.f0 x.f1 x.f2 (fun h => hx ⟨h.1.symm, h.2.1.symm⟩)
    unfold ltS at c ⊢
    rw [this]
    simp only [Bool.not_eq_true] at c
    rw [c]; rfl
   refine List.pairwise_cons.2 ⟨fun y hy => ?_, ins_sorted e t h2 (fun y hy => hd y (List.mem_cons_of_mem _ hy))⟩
   rcases (mem_ins e y t).1 hy with rfl | hy
   ·exact r
   ·exact h1 y hy
theorem rd_T28_nat (l : List S28) (i : Nat) (h : i < l.length) : rd_T28 l (i : Int) = l[i] := by
 unfold rd_T28; rw [Int.toNat_natCast, List.getD_eq_getElem?_getD, List.getElem?_eq_getElem h]; rfl
theorem Into_l0 (l : List S28) (e : S28) (hl : l.length < 1000000) (d : Nat) : ∀ i : Nat,l.length - i = d → i ≤ l.length → Ev (fun k=>incipitref12_Into.l0 k l (i : Int) e.f0 e.f1 e.f2 e.f3 e.f4) (l.take i ++ ins e (l.drop i)):=by
 induction d with
 | zero =>
  intro i hd hi
  have hi2 : i = l.length := by omega
  refine Ev.succ ?_
  simp only [incipitref12_Into.l0, Option.bind_some, Int.toNat_natCast]
  refine Ev.ite_neg (by omega) (Ev.ite_pos (by omega) (Ev.ite_pos (by omega) ?_))
  refine Ev.ite_pos (by simp only [List.length_cons,List.length_nil,List.length_drop];omega) (Ev.ite_pos (by simp only [List.length_append,List.length_cons,List.length_nil,List.length_drop,List.length_take];omega) (Ev.same ?_))
  rw [List.drop_eq_nil_of_le (by omega)]; rfl
 | succ d ih =>
  intro i hd hi
  have hlt : i < l.length := by omega
  refine Ev.succ ?_
  simp only [incipitref12_Into.l0, Option.bind_some, Int.toNat_natCast, rLess_lt3, rd_T28_nat l i hlt]
  refine Ev.ite_pos (by omega) (Ev.ite_pos (by omega) ?_)
  rw [List.drop_eq_getElem_cons hlt]
  unfold ins
  by_cases c : ltS e l[i] = true
  ·rw [if_pos c]
   refine Ev.ite_pos c (Ev.ite_pos (by omega) ?_)
   refine Ev.ite_pos (by simp only [List.length_cons,List.length_nil,List.length_drop];omega) (Ev.ite_pos (by simp only [List.length_append,List.length_cons,List.length_nil,List.length_drop,List.length_take];omega) (Ev.same rfl))
  ·rw [if_neg c]
   refine Ev.ite_neg c ?_
   rw [wrap64_id (n := (i : Int) + 1) (by omega) (by omega)]
   have := ih (i + 1) (by omega) (by omega)
   rw [List.take_succ_eq_append_getElem hlt, List.append_assoc] at this
   exact this
theorem Into_ev (l : List S28) (e : S28) (hl : l.length < 1000000) : Ev (fun k=>incipitref12_Into.f k l e.f0 e.f1 e.f2 e.f3 e.f4) (ins e l):=Into_l0 l e hl l.length 0 rfl (Nat.zero_le _)
theorem Cut1_size (s : ByteArray) (n : Nat) : ∃ t, incipitlaw1_Cut.f s (n : Int) = some t ∧ t.size ≤ n := by
 unfold incipitlaw1_Cut.f
 by_cases c : (s.size : Int) > n
 ·rw [if_pos c, if_pos (by omega), if_pos (by omega)]
  refine ⟨_, rfl, ?_⟩
  rw [ByteArray.size_extract]; omega
 ·rw [if_neg c]; exact ⟨_, rfl, by omega⟩
theorem Cut_size (a0 : ByteArray) (a1 a2 : Int) (a3 a4 : ByteArray) : ∃ c0 c3 c4,incipitlaw7_Cut.f a0 a1 a2 a3 a4 = some (c0,a1,a2,c3,c4)∧c0.size ≤ 30∧c3.size ≤ 30∧c4.size ≤ 60:=by
 obtain ⟨c0, h0, s0⟩ := Cut1_size a0 30
 obtain ⟨c3, h3, s3⟩ := Cut1_size a3 30
 obtain ⟨c4, h4, s4⟩ := Cut1_size a4 60
 have e30 : ((30 : Nat) : Int) = 30 := rfl
 have e60 : ((60 : Nat) : Int) = 60 := rfl
 rw [e30] at h0 h3
 rw [e60] at h4
 refine ⟨c0, c3, c4, ?_, s0, s3, s4⟩
 unfold incipitlaw7_Cut.f
 rw [h0, h3, h4]; rfl
/-- What may stand in a table. -/
def okE (x : S28) : Prop:=(1 ≤ x.f1∧x.f1 ≤ 1125899906842624)∧(x.f2 = 0 ∨ x.f2 = 1)∧x.f0.size ≤ 30∧x.f3.size ≤ 30∧x.f4.size ≤ 60∧(x.f2 = 0 → x.f4 = ⟨#[]⟩)
theorem Sort_l1 {l out : List S28} {n : Int} {i : Nat} {R : List S28} (e : S28) (ho : out.length < 1000000) (hi : i < 1000000) (d : Nat) : ∀ (q : Nat) (th : Bool),out.length - q = d →
  ((th || (out.drop q).any (dupB e)) = true → Ev (fun k => incipitlaw7_Sort.l0 k l n out ((i + 1 : Nat) : Int)) R) →
  ((th || (out.drop q).any (dupB e)) = false → Ev (fun k=>incipitlaw7_Sort.l0 k l n (ins e out) ((i + 1 : Nat) : Int)) R) →
  Ev (fun k => incipitlaw7_Sort.l1 k l n out (i : Int) th (q : Int) e.f0 e.f1 e.f2 e.f3 e.f4) R := by
 induction d with
 | zero =>
  intro q th hd h1 h2
  rw [List.drop_eq_nil_of_le (by omega)] at h1 h2
  simp only [List.any_nil, Bool.or_false] at h1 h2
  refine Ev.succ ?_
  simp only [incipitlaw7_Sort.l1]
  refine Ev.ite_neg (by omega) ?_
  rw [wrap64_id (n := (i : Int) + 1) (by omega) (by omega)]
  cases th with
  | true => exact Ev.ite_pos rfl (h1 rfl)
  | false => exact Ev.ite_neg (by simp) (Ev.bind (Into_ev out e ho) (h2 rfl))
 | succ d ih =>
  intro q th hd h1 h2
  have hq : q < out.length := by omega
  rw [List.drop_eq_getElem_cons hq, List.any_cons] at h1 h2
  refine Ev.succ ?_
  simp only [incipitlaw7_Sort.l1, rd_T28_nat out q hq]
  refine Ev.ite_pos (by omega) ?_
  rw [wrap64_id (n := (q : Int) + 1) (by omega) (by omega)]
  cases th with
  | true =>
   refine Ev.ite_pos rfl (ih (q + 1) true (by omega) (fun _ => h1 rfl) (fun z => by simp at z))
  | false =>
   refine Ev.ite_neg (by simp) (Ev.ite_pos (by omega) ?_)
   simp only [Bool.false_or] at h1 h2
   by_cases c : out[q].f0.toList = e.f0.toList
   ·refine Ev.ite_pos c ?_
    have hb : dupB e out[q] = (out[q].f1 == e.f1) := by unfold dupB; rw [c]; simp
    rw [hb] at h1 h2
    exact ih (q + 1) _ (by omega) h1 h2
   ·refine Ev.ite_neg c ?_
    have hb : dupB e out[q] = false := by unfold dupB; simp [c]
    rw [hb] at h1 h2
    exact ih (q + 1) false (by omega) h1 h2
theorem Sort_step {l out : List S28} {n : Int} {i : Nat} {R : List S28} (e : S28) (ho : out.length < 1000000) (hi : i < 1000000)
  (h1 : out.any (dupB e) = true → Ev (fun k => incipitlaw7_Sort.l0 k l n out ((i + 1 : Nat) : Int)) R)
  (h2 : out.any (dupB e) = false → Ev (fun k => incipitlaw7_Sort.l0 k l n (ins e out) ((i + 1 : Nat) : Int)) R) :
  Ev (fun k => incipitlaw7_Sort.j3 k l n out (i : Int) e.f0 e.f1 e.f2 e.f3 e.f4) R := by
 refine Ev.succ ?_
 simp only [incipitlaw7_Sort.j3]
 exact Sort_l1 e ho hi out.length 0 false rfl h1 h2
theorem Sort_l0 (l : List S28) (n : Nat) (hn : n ≤ 1000) (d : Nat) : ∀ (i : Nat) (out : List S28),min l.length n - i = d → i ≤ n → out.length ≤ i → out.Pairwise srtR → (∀ x ∈ out,okE x) →
  ∃ t,Ev (fun k=>incipitlaw7_Sort.l0 k l (n : Int) out (i : Int)) t∧t.length ≤ n∧t.Pairwise srtR∧∀ x ∈ t,okE x:=by
 have stop : ∀ (i : Nat) (out : List S28),¬ (i < l.length∧i < n) → Ev (fun k=>incipitlaw7_Sort.l0 k l (n : Int) out (i : Int)) out:=by
  intro i out h
  refine Ev.succ ?_
  simp only [incipitlaw7_Sort.l0]
  have fin : Ev (fun k => incipitlaw7_Sort.j1 k l (n : Int) out (i : Int) false) out := by
   refine Ev.succ ?_
   simp only [incipitlaw7_Sort.j1]
   exact Ev.ite_neg (by simp) (Ev.now _)
  by_cases c : i < l.length
  ·refine Ev.ite_pos (by omega) ?_
   rw [show decide ((i : Int) < (n : Int)) = false from decide_eq_false (by omega)]
   exact fin
  ·exact Ev.ite_neg (by omega) fin
 induction d with
 | zero =>
  intro i out hd hi ho hs hk
  exact ⟨out, stop i out (by omega), by omega, hs, hk⟩
 | succ d ih =>
  intro i out hd hi ho hs hk
  have hlt : i < l.length := by omega
  obtain ⟨c0, c3, c4, hc, s0, s3, s4⟩ := Cut_size l[i].f0 l[i].f1 l[i].f2 l[i].f3 l[i].f4
  have skip : ∀ (b : Bool),b = true → ∃ t,(∃ b',b' = b∧Ev (fun k=>incipitlaw7_Sort.j2 k l (n : Int) out (i : Int) b c0 l[i].f1 l[i].f2 c3 c4) t)∧t.length ≤ n∧t.Pairwise srtR∧∀ x ∈ t,okE x:=by
   rintro _ rfl
   obtain ⟨t, h1, h2⟩ := ih (i + 1) out (by omega) (by omega) (by omega) hs hk
   refine ⟨t, ⟨_, rfl, Ev.succ ?_⟩, h2⟩
   simp only [incipitlaw7_Sort.j2]
   refine Ev.ite_pos trivial ?_
   rw [wrap64_id (n := (i : Int) + 1) (by omega) (by omega)]
   exact h1
  have enter : ∃ t,Ev (fun k=>incipitlaw7_Sort.l0 k l (n : Int) out (i : Int)) t∧t.length ≤ n∧t.Pairwise srtR∧∀ x ∈ t,okE x:=by
   have go : ∀ (t : List S28),Ev (fun k=>if l[i].f1 < 1 then incipitlaw7_Sort.j2 k l (n : Int) out (i : Int) true c0 l[i].f1 l[i].f2 c3 c4 else if l[i].f1 > 1125899906842624 then incipitlaw7_Sort.j2 k l (n : Int) out (i : Int) true c0 l[i].f1 l[i].f2 c3 c4 else if l[i].f2 = 1 then incipitlaw7_Sort.j2 k l (n : Int) out (i : Int) false c0 l[i].f1 l[i].f2 c3 c4 else incipitlaw7_Sort.j2 k l (n : Int) out (i : Int) (l[i].f2 != 0) c0 l[i].f1 l[i].f2 c3 c4) t → Ev (fun k=>incipitlaw7_Sort.l0 k l (n : Int) out (i : Int)) t:=by
    intro t ht
    refine Ev.succ ?_
    simp only [incipitlaw7_Sort.l0]
    refine Ev.ite_pos (by omega) ?_
    rw [show decide ((i : Int) < (n : Int)) = true from decide_eq_true (by omega)]
    refine Ev.succ ?_
    simp only [incipitlaw7_Sort.j1, rd_T28_nat l i hlt, hc, Option.bind_some]
    exact Ev.ite_pos trivial (Ev.ite_pos (by omega) (Ev.ite_pos (by omega) ht))
   by_cases b1 : l[i].f1 < 1
   ·obtain ⟨t, ⟨_, _, h1⟩, h2⟩ := skip true rfl
    exact ⟨t, go t (Ev.ite_pos b1 h1), h2⟩
   by_cases b2 : l[i].f1 > 1125899906842624
   ·obtain ⟨t, ⟨_, _, h1⟩, h2⟩ := skip true rfl
    exact ⟨t, go t (Ev.ite_neg b1 (Ev.ite_pos b2 h1)), h2⟩
   have main : ∀ (v : ByteArray),okE ⟨c0,l[i].f1,l[i].f2,c3,v⟩ → ∃ t,Ev (fun k=>incipitlaw7_Sort.j3 k l (n : Int) out (i : Int) c0 l[i].f1 l[i].f2 c3 v) t∧t.length ≤ n∧t.Pairwise srtR∧∀ x ∈ t,okE x:=by
    intro v hv
    cases hdup : out.any (dupB ⟨c0, l[i].f1, l[i].f2, c3, v⟩) with
    | true =>
     obtain ⟨t, h1, h2⟩ := ih (i + 1) out (by omega) (by omega) (by omega) hs hk
     exact ⟨t,Sort_step ⟨c0,l[i].f1,l[i].f2,c3,v⟩ (by omega) (by omega) (fun _=>h1) (fun z=>by rw [hdup] at z;cases z),h2⟩
    | false =>
     obtain ⟨t,h1,h2⟩:=ih (i + 1) (ins ⟨c0,l[i].f1,l[i].f2,c3,v⟩ out) (by omega) (by omega) (by rw [ins_length];omega) (ins_sorted _ _ hs (fun x hx=>(by
      cases hb : dupB ⟨c0, l[i].f1, l[i].f2, c3, v⟩ x with
      | false => rfl
      | true => rw [List.any_eq_true.2 ⟨x, hx, hb⟩] at hdup; cases hdup))) (fun x hx => (by
       rcases (mem_ins _ x out).1 hx with rfl | hx
       ·exact hv
       ·exact hk x hx))
     exact ⟨t,Sort_step ⟨c0,l[i].f1,l[i].f2,c3,v⟩ (by omega) (by omega) (fun z=>by rw [hdup] at z;cases z) (fun _=>h1),h2⟩
   by_cases b3 : l[i].f2 = 1
   ·obtain ⟨t,h1,h2⟩:=main c4 ⟨⟨Int.not_lt.1 b1,Int.not_lt.1 b2⟩,.inr b3,s0,s3,s4,fun z=>absurd (z.symm.trans b3) (by decide)⟩
    refine ⟨t, go t (Ev.ite_neg b1 (Ev.ite_neg b2 (Ev.ite_pos b3 (Ev.succ ?_)))), h2⟩
    simp only [incipitlaw7_Sort.j2]
    exact Ev.ite_neg (by simp) (Ev.ite_neg (by rw [b3]; decide) h1)
   by_cases b4 : l[i].f2 = 0
   ·obtain ⟨t,h1,h2⟩:=main ⟨#[]⟩ ⟨⟨Int.not_lt.1 b1,Int.not_lt.1 b2⟩,.inl b4,s0,s3,by show (0 : Nat) ≤ 60;omega,fun _=>rfl⟩
    refine ⟨t, go t (Ev.ite_neg b1 (Ev.ite_neg b2 (Ev.ite_neg b3 ?_))), h2⟩
    rw [show (l[i].f2 != 0) = false by rw [b4]; rfl]
    refine Ev.succ ?_
    simp only [incipitlaw7_Sort.j2]
    exact Ev.ite_neg (by simp) (Ev.ite_pos b4 h1)
   ·obtain ⟨t, ⟨_, _, h1⟩, h2⟩ := skip (l[i].f2 != 0) (bne_iff_ne.2 b4)
    exact ⟨t, go t (Ev.ite_neg b1 (Ev.ite_neg b2 (Ev.ite_neg b3 h1))), h2⟩
  exact enter
theorem Sort_ev (l : List S28) (n : Nat) (hn : n ≤ 1000) : ∃ t,Ev (fun k=>incipitlaw7_Sort.f k l (n : Int)) t∧t.length ≤ n∧t.Pairwise srtR∧∀ x ∈ t,okE x :=
 Sort_l0 l n hn (min l.length n) 0 [] rfl (Nat.zero_le _) (Nat.le_refl _) List.Pairwise.nil (fun x hx => by cases hx)
end Go.Proofs.Ytenmljkddhonmaa.QTbl

/- A binary search finds the first place at which a rising test is true. -/
namespace Go.Proofs.Ytenmljkddhonmaa.QTbl
open Go.RowKit Go.Proofs.Ytenmljkddhonmaa.MTbl Go.Proofs.Ytenmljkddhonmaa.QTbl Go.Proofs.YtenmljkddhonmaaW.PrintWords Go.Proofs.YtenmljkddhonmaaW.PrintLast Go.Proofs.YtenmljkddhonmaaW.PrintMore
set_option linter.unusedVariables false
set_option linter.unusedSimpArgs false
theorem bsearch_eq (p : Nat → Bool) (c : Nat) : ∀ k lo hi,hi - lo ≤ k → lo ≤ c → c ≤ hi → (∀ i,lo ≤ i → i < hi → (p i = true ↔ c ≤ i)) → bsearch p k lo hi = c
 | 0, lo, hi, h, h1, h2, _ => by unfold bsearch; omega
 | k + 1, lo, hi, h, h1, h2, hp => by
  unfold bsearch
  by_cases hl : lo < hi
  ·rw [if_pos hl]
   have hm := hp ((lo + hi) / 2) (by omega) (by omega)
   by_cases c1 : p ((lo + hi) / 2) = true
   ·rw [if_pos c1]
    exact bsearch_eq p c k lo _ (by omega) h1 (hm.1 c1) (fun i a b => hp i a (by omega))
   ·rw [if_neg c1]
    have : ¬ c ≤ (lo + hi) / 2 := fun z => c1 (hm.2 z)
    exact bsearch_eq p c k _ hi (by omega) (by omega) h2 (fun i a b => hp i (by omega) b)
  ·rw [if_neg hl]; omega
end Go.Proofs.Ytenmljkddhonmaa.QTbl

/- The first entry that may be seen: found by a binary search, and by the reference. -/
namespace Go.Proofs.Ytenmljkddhonmaa.QTbl
open Go.RowKit Go.Proofs.Ytenmljkddhonmaa.MTbl Go.Proofs.Ytenmljkddhonmaa.QTbl Go.Proofs.YtenmljkddhonmaaW.PrintWords Go.Proofs.YtenmljkddhonmaaW.PrintLast Go.Proofs.YtenmljkddhonmaaW.PrintMore
set_option linter.unusedVariables false
set_option linter.unusedSimpArgs false
def atB (a1 : ByteArray) (a2 : Int) (x : S28) : Bool:=!(Op.bytesLess x.f0.toList a1.toList || x.f0.toList == a1.toList) || (x.f0.toList == a1.toList && decide (x.f1 ≤ a2))
def hitB (a1 : ByteArray) (a2 : Int) (x : S28) : Bool := x.f0.toList == a1.toList && decide (x.f1 ≤ a2)
theorem gt_eq (n a : List UInt8) : (!(Op.bytesLess n a || n == a)) = Op.bytesLess a n := by
 by_cases e : n = a
 ·subst e; simp [bl_irrefl]
 ·rw [bl_total n a e]; simp [e]
theorem atB_eq (a1 : ByteArray) (a2 : Int) (x : S28) : atB a1 a2 x = (Op.bytesLess a1.toList x.f0.toList || hitB a1 a2 x):=by unfold atB hitB;rw [gt_eq]
theorem atB_up {a1 : ByteArray} {a2 : Int} {x y : S28} (h : ltS x y = true) (hx : atB a1 a2 x = true) : atB a1 a2 y = true:=by
 rw [atB_eq] at hx ⊢
 unfold hitB at hx ⊢
 unfold ltS lt3 at h
 by_cases e : x.f0.toList = y.f0.toList
 ·rw [if_pos e] at h
  rw [e] at hx
  simp only [Bool.or_eq_true, Bool.and_eq_true, decide_eq_true_eq, beq_iff_eq] at hx ⊢
  rcases hx with hx | ⟨h1, h2⟩
  ·exact .inl hx
  ·refine .inr ⟨h1, ?_⟩
   by_cases f : x.f1 = y.f1
   ·omega
   ·rw [if_neg f, decide_eq_true_eq] at h; omega
 ·rw [if_neg e] at h
  simp only [Bool.or_eq_true, Bool.and_eq_true, decide_eq_true_eq, beq_iff_eq] at hx ⊢
  rcases hx with hx | ⟨h1, h2⟩
  ·exact .inl (bl_trans _ _ _ hx h)
  ·rw [h1] at h; exact .inl h
def firstAt (a1 : ByteArray) (a2 : Int) : List S28 → Nat
 | [] => 0
 | x :: t => if atB a1 a2 x = true then 0 else firstAt a1 a2 t + 1
theorem firstAt_le (a1 : ByteArray) (a2 : Int) : ∀ l, firstAt a1 a2 l ≤ l.length
 | [] => Nat.le_refl _
 | x :: t => by unfold firstAt; split <;> simp [firstAt_le a1 a2 t]
theorem firstAt_iff (a1 : ByteArray) (a2 : Int) : ∀ (l : List S28),l.Pairwise srtR → ∀ i (h : i < l.length),(atB a1 a2 l[i] = true ↔ firstAt a1 a2 l ≤ i)
 | [], _, i, h => by simp at h
 | x :: t, hl, i, h => by
  obtain ⟨h1, h2⟩ := List.pairwise_cons.1 hl
  unfold firstAt
  by_cases c : atB a1 a2 x = true
  ·rw [if_pos c]
   refine ⟨fun _ => Nat.zero_le _, fun _ => ?_⟩
   cases i with
   | zero => exact c
   | succ i => exact atB_up (h1 _ (List.getElem_mem _)).1 c
  ·rw [if_neg c]
   cases i with
   | zero => exact ⟨fun z => absurd z c, fun z => by omega⟩
   | succ i =>
    have := firstAt_iff a1 a2 t h2 i (by simpa using h)
    rw [List.getElem_cons_succ, this]; omega
def rfind (a1 : ByteArray) (a2 : Int) : List S28 → Option S28
 | [] => none
 | x :: t => if hitB a1 a2 x = true then some x else rfind a1 a2 t
theorem rfind_none {a1 : ByteArray} {a2 : Int} : ∀ {l : List S28},(∀ x ∈ l,hitB a1 a2 x = false) → rfind a1 a2 l = none
 | [], _ => rfl
 | x :: t, h => by
  unfold rfind
  rw [h x (List.mem_cons_self ..), if_neg (by simp)]
  exact rfind_none (fun y hy => h y (List.mem_cons_of_mem _ hy))
theorem find_same (a1 : ByteArray) (a2 : Int) : ∀ (l : List S28),l.Pairwise srtR → rfind a1 a2 l = if firstAt a1 a2 l < l.length then (if (l.getD (firstAt a1 a2 l) z28).f0.toList = a1.toList then some (l.getD (firstAt a1 a2 l) z28) else none) else none
 | [], _ => rfl
 | x :: t, hl => by
  obtain ⟨h1, h2⟩ := List.pairwise_cons.1 hl
  unfold rfind firstAt
  have h0 : 0 < (x :: t).length := by simp
  by_cases c : atB a1 a2 x = true
  ·by_cases e : x.f0.toList = a1.toList
   ·have hh : hitB a1 a2 x = true := by rw [atB_eq, e, bl_irrefl, Bool.false_or] at c; exact c
    rw [if_pos hh, if_pos c, if_pos h0, List.getD_cons_zero, if_pos e]
   ·have hh : hitB a1 a2 x = false := by unfold hitB; simp [e]
    rw [hh, if_neg (by simp), if_pos c, if_pos h0, List.getD_cons_zero, if_neg e]
    rw [atB_eq, hh, Bool.or_false] at c
    refine rfind_none (fun y hy => ?_)
    have l1 := (h1 y hy).1
    unfold ltS lt3 at l1
    have c2 : Op.bytesLess a1.toList y.f0.toList = true := by
     by_cases f : x.f0.toList = y.f0.toList
     ·rw [← f]; exact c
     ·rw [if_neg f] at l1; exact bl_trans _ _ _ c l1
    have n2 : ¬ y.f0.toList = a1.toList := fun z => by rw [z, bl_irrefl] at c2; cases c2
    unfold hitB; simp [n2]
  ·have hh : ¬ hitB a1 a2 x = true := fun z => c (by rw [atB_eq, z, Bool.or_true])
   rw [if_neg hh, if_neg c, find_same a1 a2 t h2, List.getD_cons_succ, List.length_cons]
   by_cases d : firstAt a1 a2 t < t.length
   ·rw [if_pos d, if_pos (Nat.succ_lt_succ d)]
   ·rw [if_neg d, if_neg (fun z => d (Nat.lt_of_succ_lt_succ z))]
def outF : Option S28 → ByteArray × Int × Int × ByteArray × ByteArray × Bool
 | none => ((⟨#[]⟩ : ByteArray), 0, 0, (⟨#[]⟩ : ByteArray), (⟨#[]⟩ : ByteArray), false)
 | some x => (x.f0, x.f1, x.f2, x.f3, x.f4, true)
theorem Find_eq (l : List S28) (a1 : ByteArray) (a2 : Int) (hl : l.length < 1000000) (hs : l.Pairwise srtR) : ikey_Find.f l a1 a2 = some (outF (rfind a1 a2 l)):=by
 have hbs : bsearch (findAt l a1 a2) l.length 0 l.length = firstAt a1 a2 l := by
  refine bsearch_eq _ _ l.length 0 l.length (by omega) (Nat.zero_le _) (firstAt_le a1 a2 l) (fun i _ hi => ?_)
  rw [← firstAt_iff a1 a2 l hs i hi]
  unfold findAt
  rw [rd_T28_nat l i hi]; rfl
 unfold ikey_Find.f
 rw [hbs, if_pos (by omega), find_same a1 a2 l hs]
 have e : rd_T28 l ((firstAt a1 a2 l : Nat) : Int) = l.getD (firstAt a1 a2 l) z28:=by unfold rd_T28;rw [Int.toNat_natCast]
 rw [e]
 by_cases c : firstAt a1 a2 l < l.length
 ·rw [if_pos c, if_pos c]
  by_cases c2 : (l.getD (firstAt a1 a2 l) z28).f0.toList = a1.toList
  ·rw [if_pos c2, if_pos c2]; rfl
  ·rw [if_neg c2, if_neg c2]; rfl
 ·rw [if_neg c, if_neg c]; rfl
theorem rFind_l0 (l : List S28) (a1 : ByteArray) (a2 : Int) (hl : l.length < 1000000) (d : Nat) : ∀ i : Nat,l.length - i = d → Ev (fun k=>incipitref12_Find.l0 k l a1 a2 (i : Int)) (outF (rfind a1 a2 (l.drop i))):=by
 induction d with
 | zero =>
  intro i hd
  refine Ev.succ ?_
  simp only [incipitref12_Find.l0]
  rw [List.drop_eq_nil_of_le (by omega)]
  exact Ev.ite_neg (by omega) (Ev.now _)
 | succ d ih =>
  intro i hd
  have hlt : i < l.length := by omega
  have en : wrap64 ((i : Int) + 1) = ((i + 1 : Nat) : Int) := by rw [wrap64_id (by omega) (by omega)]; omega
  refine Ev.succ ?_
  simp only [incipitref12_Find.l0, rd_T28_nat l i hlt, en]
  rw [List.drop_eq_getElem_cons hlt]
  unfold rfind
  refine Ev.ite_pos (by omega) (Ev.ite_pos (by omega) ?_)
  by_cases c : l[i].f0.toList = a1.toList
  ·refine Ev.ite_pos c ?_
   by_cases c2 : l[i].f1 ≤ a2
   ·rw [if_pos (by unfold hitB; simp [c, c2])]
    exact Ev.ite_pos c2 (Ev.now _)
   ·rw [if_neg (by unfold hitB; simp [c2])]
    exact Ev.ite_neg c2 (ih (i + 1) (by omega))
  ·rw [if_neg (by unfold hitB; simp [c])]
   exact Ev.ite_neg c (ih (i + 1) (by omega))
theorem rEq_self (a0 : ByteArray) (a1 a2 : Int) (a3 a4 : ByteArray) : incipitref12_Eq.f a0 a1 a2 a3 a4 a0 a1 a2 a3 a4 = some true:=by
 unfold incipitref12_Eq.f; simp
end Go.Proofs.Ytenmljkddhonmaa.QTbl

namespace Go.Proofs.Ytenmljkddhonmaa.MTbl
open Go.RowKit Go.Proofs.Ytenmljkddhonmaa.QTbl Go.Proofs.YtenmljkddhonmaaW.PrintWords Go.Proofs.YtenmljkddhonmaaW.PrintLast Go.Proofs.YtenmljkddhonmaaW.PrintMore
set_option linter.unusedVariables false
set_option linter.unusedSimpArgs false
/-- A filter tells of none of the entries' forms that it is not there. -/
def FltOK (flt : List Int) (l : List S28) : Prop:=∀ s : ByteArray,s.size ≤ maxLen → ∃ rb,Ev (fun k=>bloom_May.f k flt s) rb∧(rb = false → ∀ x ∈ l,¬ x.f0.toList = s.toList)
theorem outF_eq (o : Option S28) : outF o = ((o.getD z28).f0,(o.getD z28).f1,(o.getD z28).f2,(o.getD z28).f3,(o.getD z28).f4,o.isSome):=by cases o <;> rfl
theorem rfind_hit {a1 : ByteArray} {a2 : Int} : ∀ {l : List S28},(∀ x ∈ l,¬ x.f0.toList = a1.toList) → rfind a1 a2 l = none:=fun h=>rfind_none (fun x hx=>by unfold hitB;simp [h x hx])
theorem table_GetS.calls (w : World) (g : Nat) (l : List S28) (flt : List Int) (bl : Nat) (s : ByteArray) (q : Int) (x : S28) (b : Bool) (hI : TabI w g l flt bl) (hl : l.length < 1000000) (hs : l.Pairwise srtR) (hF : FltOK flt l) (hm : s.size ≤ maxLen) (hx : x = (rfind s q l).getD z28) (hb : b = (rfind s q l).isSome) :
  Calls Try.prog 24 #[.pointer (some ⟨g,0,none⟩),.string s,.int .i64 q] w fun e w'=>e = .returned (.tuple #[.agg #[.string x.f0,.int .i64 x.f1,.int .i64 x.f2,.string x.f3,.string x.f4],.bool b,.int .i64 0])∧Below w.heap.size w w':=by
 obtain ⟨rb, ⟨K, hK⟩, h2⟩ := hF s hm
 have hf := Find_eq l s q hl hs
 rw [outF_eq, ← hx, ← hb] at hf
 refine (table_Get.calls K w g l flt bl s q rb _ _ _ _ _ _ hI (hK K (Nat.le_refl _)) hf).mono ?_
 rintro e w' ⟨rfl, h⟩
 refine ⟨?_, h⟩
 cases rb with
 | true => rw [if_pos rfl, Bool.true_and]
 | false =>
  have hn := rfind_hit (a2 := q) (h2 rfl)
  rw [hn] at hx hb
  subst hx; subst hb
  rfl
set_option maxHeartbeats 8000000 in
set_option maxRecDepth 1000000 in
theorem law_gets.calls (w : World) (g : Nat) (l : List S28) (flt : List Int) (bl : Nat) (s : ByteArray) (q : Int) (A0 : Option Addr) (c0 : Nat) (hI : TabI w g l flt bl) (hl : l.length < 1000000) (hs : l.Pairwise srtR) (hF : FltOK flt l) (hm : s.size ≤ maxLen) (hr0 : Kd.C k28 w A0 l.length l) (hc0 : l.length ≤ c0) :
  Calls Try.prog 32 #[.pointer (some ⟨g,0,none⟩),.slice A0 l.length c0,.string s,.int .i64 q] w fun e w'=>e = .returned (.bool true)∧Below w.heap.size w w':=by
 have hu28 := Try.underlying28
 obtain ⟨x, hx⟩ : ∃ x, x = (rfind s q l).getD z28 := ⟨_, rfl⟩
 obtain ⟨b, hb⟩ : ∃ b, b = (rfind s q l).isSome := ⟨_, rfl⟩
 have HG := Aside0.mk (table_GetS.calls w g l flt bl s q x b hI hl hs hF hm hx hb)
 obtain ⟨K, hK⟩ := rFind_l0 l s q hl l.length 0 rfl
 have hf := hK K (Nat.le_refl _)
 rw [List.drop_zero, outF_eq, ← hx, ← hb] at hf
 have HF:=Aside0.mk (fun (w2 : World) (hb2 : Below w.heap.size w w2)=>incipitref12_Find.calls K A0 c0 l s q _ _ _ _ _ _ w2 (Kd.C_below hr0 hb2) hc0 hf)
 have HE:=Aside0.mk (fun (w2 : World)=>incipitref12_Eq.calls x.f0 x.f1 x.f2 x.f3 x.f4 x.f0 x.f1 x.f2 x.f3 x.f4 true w2 (rEq_self _ _ _ _ _))
 clear hI hr0 hx hb hf hK hF
 cases b
 all_goals go_enter Try.func32, Try.ntmps32
 all_goals go_wp2_with (first | (go_at_call 24;refine HG.out.mono ?_;rintro e w1 ⟨rfl,hb⟩;have HB1:=Aside0.mk hb;clear hb) | (go_at_call 64;refine (HF.out _ (below_alloc HB1.out _)).mono ?_;rintro e w2 ⟨rfl,hb⟩;have HB2:=Aside0.mk (below_step (below_alloc HB1.out _) hb);have hz1:=(hb.block w1.heap.size (by simp)).trans (heap_new_ w1 (.cells #[.string x.f0,.int .i64 x.f1,.int .i64 x.f2,.string x.f3,.string x.f4] 28));have hz2:=blk_alloc hz1 (.cells #[.string x.f0,.int .i64 x.f1,.int .i64 x.f2,.string x.f3,.string x.f4] 28);clear hb;have z0:=(blk_cell hz2 0).trans rfl;have z1:=(blk_cell hz2 1).trans rfl;have z2:=(blk_cell hz2 2).trans rfl;have z3:=(blk_cell hz2 3).trans rfl;have z4:=(blk_cell hz2 4).trans rfl) | (go_at_call 19;refine (HE.out _).mono ?_;rintro e w3 ⟨rfl,hb⟩;have HB3:=Aside0.mk (below_step (by repeat (first | exact HB2.out | apply below_alloc | apply pw_below_drewN | apply below_drew1)) hb);clear hb))
 all_goals go_ret
 all_goals exact ⟨by first | rfl | simp, HB3.out⟩
end Go.Proofs.Ytenmljkddhonmaa.MTbl

namespace Go.Proofs.Ytenmljkddhonmaa.MTbl
open Go.RowKit Go.Proofs.YtenmljkddhonmaaW.PrintWords Go.Proofs.YtenmljkddhonmaaW.PrintLast Go.Proofs.YtenmljkddhonmaaW.PrintMore
set_option linter.unusedVariables false
set_option linter.unusedSimpArgs false
def putAll (k : Nat) : List Int → List Int → Option (List Int)
 | [], b => some b
 | n :: t,b=>(varint_Put.f k (IntKind.u64.wrap n)).bind fun p=>if b.length + p.length < 140737488355328 then putAll k t (b ++ p) else none
theorem map_get (l : List Int) (j : Nat) (h : j < l.length) : (l.map (Value.int .i64)).toArray[j]? = some (Value.int .i64 (l.getD j 0)):=by
 rw [List.getElem?_toArray, List.getElem?_map, List.getD_eq_getElem?_getD, List.getElem?_eq_getElem h]; rfl
theorem drop_getD_ (l : List Int) (j : Nat) (h : j < l.length) : l.drop j = l.getD j 0 :: l.drop (j + 1) := by
 rw [List.drop_eq_getElem_cons h, List.getD_eq_getElem?_getD, List.getElem?_eq_getElem h]; rfl
theorem alloc_new_ (W : World) (o : Obj) (g : Nat) (h : g = W.heap.size) : (W.alloc o).heap[g]? = some o:=by subst h;exact Array.getElem?_push_size
set_option maxHeartbeats 8000000 in
set_option maxRecDepth 100000 in
theorem block_Add_yesB.calls (k : Nat) (w0 w : World) (g : Nat) (rows n : Int) (last key value : ByteArray) (b p b1 : List Int) (hI : BldI w0 w g rows last b p) (h1 : 0 < rows) (h2 : Op.bytesLess last.toList key.toList = true)
  (h3 : rows.tmod 4 = 0 → False) (hs : block_shared.f k last key = some n) (hn0 : 0 ≤ n) (hn1 : n ≤ key.size) (hb1 : putAll k [n,(key.size : Int) - n,value.size] b = some b1) (hr9 : rows < 4611686018427387904) (hks : key.size < 1000000) (hvs : value.size < 1000000) (hbl : b1.length < 100000000000) :
  Calls Try.prog 45 #[.pointer (some ⟨g,0,none⟩),.string key,.string value] w fun e w'=>e = .returned (.bool true)∧BldI w0 w' g (rows + 1) key (b1 ++ bytesOf (key.extract n.toNat key.size) ++ bytesOf value) p∧Oth w w' g:=by
 obtain ⟨hge, hB, vb, vp, hC, hO, hP, hn⟩ := hI
 have h0 : w.cell? ⟨g, 0, none⟩ = some (.int .i64 rows) := (blk_cell hC 0).trans rfl
 have hl : w.cell? ⟨g, 1, none⟩ = some (.string last) := (blk_cell hC 1).trans rfl
 have HI : Aside0 (BldI w0 w g rows last b p) := ⟨⟨hge, hB, vb, vp, hC, hO, hP, hn⟩⟩
 clear hB hC hO hP hn
 have hu82 := Try.underlying82
 have hr : (0 < rows) = True := eq_true h1
 have hrm : (rows.tmod 4 == 0) = false := beq_eq_false_iff_ne.mpr h3
 have hle : binOp .leq 9 (.string key) (.string last) = pure (.bool false) := by rw [binOp_string_leq_, h2]; rfl
 have hwk : IntKind.i64.wrap ((key.size : Int) - n) = (key.size : Int) - n := (i64_w _).trans (by unfold wrap64; omega)
 have HS := Aside0.mk hs
 have HA := Aside0.mk hb1
 clear h2 h1 h3 hs hb1
 go_enter Try.func45, Try.ntmps45
 go_wp2_with (fail)
 refine (block_shared.calls k last key n _ HS.out).mono ?_
 rintro e w' ⟨rfl, hd⟩
 obtain ⟨m, rfl⟩ := hd.out
 clear hd
 obtain ⟨w1, hw1⟩ : ∃ w1, Aside0 (w1 = w.drewN m) := ⟨_, ⟨rfl⟩⟩
 have HI1 : Aside0 (BldI w0 w1 g rows last b p):=⟨by rw [hw1.out];exact HI.out.below (pw_below_drewN (Below.refl _ _) m)⟩
 have HO1 : Aside0 (Oth w w1 g) := ⟨by rw [hw1.out]; exact Oth.below (pw_below_drewN (Below.refl _ _) m)⟩
 have h01 : w1.cell? ⟨g, 0, none⟩ = some (.int .i64 rows) := by rw [hw1.out]; exact h0
 rw [← hw1.out]
 clear hw1 HI h0 hl
 go_wp2_with (fail)
 obtain ⟨gL, hgL⟩ : ∃ gL, Aside0 (gL = w1.heap.size) := ⟨_, ⟨rfl⟩⟩
 have hLg : gL ≠ g := by
  obtain ⟨_, _, _, _, hc_, _⟩ := HI1.out
  have := blk_lt hc_
  have := hgL.out
  omega
 have HI2 : Aside0 (BldI w0 (w1.alloc (.cells #[.int .i64 n,.int .i64 ((key.size : Int) - n),.int .i64 value.size] 3)) g rows last b p):=⟨HI1.out.below (below_alloc (Below.refl _ _) _)⟩
 have HO2 : Aside0 (Oth w (w1.alloc (.cells #[.int .i64 n,.int .i64 ((key.size : Int) - n),.int .i64 value.size] 3)) g):=⟨HO1.out.trans (Oth.below (below_alloc (Below.refl _ _) _))⟩
 have HL : Aside0 ((w1.alloc (.cells #[.int .i64 n,.int .i64 ((key.size : Int) - n),.int .i64 value.size] 3)).heap[gL]? = some (.cells (([n,(key.size : Int) - n,(value.size : Int)] : List Int).map (Value.int .i64)).toArray 3 (0,0))):=⟨alloc_new_ _ _ _ hgL.out⟩
 rw [← hgL.out]
 clear h01
 go_loopg [63] 3 (fun kx s63 wr=>∃ (j : Nat) (bj : List Int),s63 = .int .i64 j∧j + kx = 3∧Aside0 (putAll k (([n,(key.size : Int) - n,(value.size : Int)] : List Int).drop j) bj = some b1)∧Aside0 (BldI w0 wr g rows last bj p)∧Aside0 (wr.heap[gL]? = some (.cells (([n,(key.size : Int) - n,(value.size : Int)] : List Int).map (Value.int .i64)).toArray 3 (0,0)))∧Aside0 (Oth w wr g))
 case atStart => exact ⟨0, b, rfl, rfl, HA, HI2, HL, HO2⟩
 case round =>
  clear HI1 HO1 HI2 HO2 HL hwk HA hgL
  obtain ⟨j, bj, rfl, hk, HP, HI, HL, HO⟩ := hrel
  cases gk with
  | zero =>
   have hj : ((j : Int) < 3) = False := eq_false (by omega)
   have hbe : bj = b1 := by
    have h_ := HP.out
    rw [List.drop_eq_nil_of_le (by simp only [List.length_cons, List.length_nil]; omega)] at h_
    exact Option.some.inj h_
   subst hbe
   clear HP HL
   obtain ⟨hge, hB, vb, vp, hC, hO, hP, hn⟩ := HI.out
   have HB := Aside0.mk hB
   have HOb := Aside0.mk hO
   have HOp := Aside0.mk hP
   have HN := Aside0.mk hn
   have HC := Aside0.mk hC
   have hc2 : wr.cell? ⟨g, 2, none⟩ = some vb := (blk_cell hC 2).trans rfl
   clear HI hB hO hP hn hC
   go_wp2_with (fail)
   go_region_law (first
    | (refine R_append_str_step (w0:=w0) w0.heap.size (by rfl) (.tmp 83) (.tmp 86) 43 9 5 rfl Try.underlying43 Try.underlying9 info5 vb bj (key.extract n.toNat key.size) (fun k=>k ≠ g) (by rfl) (by rfl) ?aO ?aF ?aB ?aS ?aL ?_;(case aO=>first | exact HOb.out | exact Kd.R_drew HOb.out);(case aF=>exact fun i hi=>by have:=blk_lt HC.out;have hi : wr.heap.size ≤ i:=hi;omega);(case aB=>first | exact HB.out | exact below_drew1 HB.out);(case aS=>first | exact below_size HB.out | exact below_size (below_drew1 HB.out));(case aL=>rw [ByteArray.size_extract];omega);intro v1 w1 ho1 hb1 hg1 hat1;have HO1:=Aside0.mk ho1;have HB1:=Aside0.mk hb1;have HG1:=Aside0.mk hg1;have HA1:=Aside0.mk hat1;have HC1:=Aside0.mk ((hg1.block g (blk_lt HC.out) (Kd.R_away HOb.out (fun _ h=>h))).trans HC.out);clear ho1 hb1 hg1 hat1)
    | (refine R_append_str_step (w0:=w0) w0.heap.size (by rfl) (.tmp 87) (.tmp 88) 43 9 5 rfl Try.underlying43 Try.underlying9 info5 v1 (bj ++ bytesOf (key.extract n.toNat key.size)) value (fun k=>k ≠ g) (by rfl) (by rfl) ?aO ?aF ?aB ?aS ?aL ?_;(case aO=>exact HO1.out);(case aF=>exact fun i hi=>by have:=blk_lt HC.out;have h_ : wr.heap.size ≤ w1.heap.size:=HG1.out.size;omega);(case aB=>exact HB1.out);(case aS=>exact below_size HB1.out);(case aL=>rw [List.length_append,bytesOf_length,ByteArray.size_extract];omega);intro v2 w2 ho2 hb2 hg2 hat2;obtain ⟨A3,c3,e3⟩:=Kd.R_slice ho2;obtain ⟨nl,hnl⟩ : ∃ nl,Aside0 (nl = (bj ++ bytesOf (key.extract n.toNat key.size) ++ bytesOf value).length):=⟨_,⟨rfl⟩⟩;rw [← hnl.out] at e3;subst e3;have hc3:=(blk_cell ((hg2.block g (blk_lt HC1.out) (Kd.R_away HO1.out (fun _ h=>h))).trans HC1.out) 2).trans rfl;have hf3:=blk_frozen ((hg2.block g (blk_lt HC1.out) (Kd.R_away HO1.out (fun _ h=>h))).trans HC1.out) 2;have HO2:=Aside0.mk ho2;have HB2:=Aside0.mk hb2;have HG2:=Aside0.mk hg2;have HA2:=Aside0.mk hat2;clear ho2 hb2 hg2 hat2))
   all_goals
    have BI : Aside0 (BldI w0 (w2.setCell ⟨g,2,none⟩ _) g rows last (bj ++ bytesOf (key.extract n.toNat key.size) ++ bytesOf value) p):=⟨BldI.set_b hge HB2.out HC1.out HO1.out (R_beside (Kd.R_drew HOp.out) HG1.out (ne_sym HN.out)) (ne_after (w:=wr.drew) (Kd.R_lt (Kd.R_drew HOp.out)) HA1.out HN.out) HO2.out HG2.out HA2.out⟩
    have OO : Aside0 (Oth w (w2.setCell ⟨g,2,none⟩ (.slice A3 nl c3)) g):=⟨((HO.out.trans (Oth.below (below_drew (Below.refl _ _)))).trans (Oth.grown (Kd.R_drew HOb.out) HG1.out)).trans ((Oth.grown HO1.out HG2.out).trans (Oth.set 2 _))⟩
    obtain ⟨w3, hw3⟩ : ∃ w3, Aside0 (w3 = w2.setCell ⟨g, 2, none⟩ (.slice A3 nl c3)) := ⟨_, ⟨rfl⟩⟩
    rw [← hw3.out] at BI OO ⊢
    clear hw3 hc3 hf3 HO2 HB2 HG2 HA2 HC1 HA1 HG1 HB1 HO1 hc2 HC HN HOp HOb HB HO
    obtain ⟨_, _, vb3, vp3, hC3, _⟩ := BI.out
    have h30 : w3.cell? ⟨g, 0, none⟩ = some (.int .i64 rows) := (blk_cell hC3 0).trans rfl
    have hf30 : w3.frozen? ⟨g, 0, none⟩ = false := blk_frozen hC3 0
    have hf31 : (w3.setCell ⟨g,0,none⟩ (.int .i64 (rows + 1))).frozen? ⟨g,1,none⟩ = false:=blk_frozen (blk_set hC3 0 _) 1
    have hc31 : (w3.setCell ⟨g,0,none⟩ (.int .i64 (rows + 1))).cell? ⟨g,1,none⟩ = some (.string last):=(blk_cell (blk_set hC3 0 _) 1).trans rfl
    have hwr : IntKind.i64.wrap (rows + 1) = rows + 1:=(i64_w _).trans (by have hr0:=of_eq_true hr;unfold wrap64;omega)
    clear hC3
    go_wp2_with (fail)
    go_ret
    exact ⟨rfl, (BI.out.set_0 _).set_1 _, OO.out.trans ((Oth.set 0 _).trans (Oth.set 1 _))⟩
  | succ kk =>
   have hj : ((j : Int) < 3) = True := eq_true (by omega)
   have hj0 : ((0 : Int) ≤ (j : Int)) = True := eq_true (by omega)
   have hj1 : (j < 3) = True := eq_true (by omega)
   have hjl : j < ([n,(key.size : Int) - n,(value.size : Int)] : List Int).length:=by simp only [List.length_cons,List.length_nil];omega
   have hdj := drop_getD_ ([n, (key.size : Int) - n, (value.size : Int)] : List Int) j hjl
   have hcj := (blk_cell HL.out j).trans (map_get ([n, (key.size : Int) - n, (value.size : Int)] : List Int) j hjl)
   have hp_ := HP.out
   rw [hdj] at hp_
   clear HP hdj
   generalize ([n, (key.size : Int) - n, (value.size : Int)] : List Int).getD j 0 = nj at hp_ hcj
   simp only [putAll] at hp_
   obtain ⟨pj, hp1, hp2⟩ := Option.bind_eq_some_iff.mp hp_
   by_cases hpl : bj.length + pj.length < 140737488355328
   ·rw [if_pos hpl] at hp2
    have HP := Aside0.mk hp2
    have HQ := Aside0.mk hp1
    clear hp_ hp1 hp2
    obtain ⟨hge, hB, vb, vp, hC, hO, hP, hn⟩ := HI.out
    have HB := Aside0.mk hB
    have HOb := Aside0.mk hO
    have HOp := Aside0.mk hP
    have HN := Aside0.mk hn
    have HC := Aside0.mk hC
    have hc2 : wr.cell? ⟨g, 2, none⟩ = some vb := (blk_cell hC 2).trans rfl
    clear HI hB hO hP hn hC
    go_wp2_with (fail)
    go_region_law (first
     | (go_simp;go_at_call 44;(with_reducible refine (varint_Put.calls k (IntKind.u64.wrap nj) pj _ HQ.out).mono ?_);rintro e w' ⟨v0,rfl,ho,hb⟩;obtain ⟨A1,c1,e1⟩:=Kd.R_slice ho;subst e1;have HB2:=Aside0.mk (below_step (below_drew1 HB.out) hb);have HOb2:=Aside0.mk (Kd.R_below (Kd.R_drew HOb.out) hb);have HOp2:=Aside0.mk (Kd.R_below (Kd.R_drew HOp.out) hb);have HP2:=Aside0.mk (Kd.R_reads' ho).2.2;have HC2:=Aside0.mk ((hb.block g (blk_lt HC.out)).trans HC.out);have HS2:=Aside0.mk hb;have hc22:=(blk_cell HC2.out 2).trans rfl;have hf22:=blk_frozen HC2.out 2;clear ho hb)
     | (refine Kd.R_append_rows_step (Kd.int .u8) (w0:=w0) w0.heap.size (by rfl) (.tmp 71) (.tmp 74) 43 5 (.int .u8 0) 1 rfl Try.underlying43 info5 rfl (by decide) (by omega) vb bj pj _ _ _ (fun k=>k ≠ g) (fun _=>False) (by rfl) (by rfl) ?aO ?aR (fun _ _ h=>h) (fun _ h=>h.elim) ?aF ?aB ?aS ?aL ?_;(case aO=>exact HOb2.out);(case aR=>exact HP2.out);(case aF=>exact fun i hi=>by have:=blk_lt HC2.out;omega);(case aB=>exact HB2.out);(case aS=>exact below_size HB2.out);(case aL=>omega);intro v1 w1 ho1 hb1 hg1 hat;obtain ⟨A3,c3,e3⟩:=Kd.R_slice ho1;obtain ⟨nl,hnl⟩ : ∃ nl,Aside0 (nl = (bj ++ pj).length):=⟨_,⟨rfl⟩⟩;rw [← hnl.out] at e3;subst e3;have HO3:=Aside0.mk ho1;have HB3:=Aside0.mk hb1;have HG3:=Aside0.mk hg1;have HA3:=Aside0.mk hat;have HC3:=Aside0.mk ((hg1.block g (blk_lt HC2.out) (Kd.R_away HOb2.out (fun _ h=>h))).trans HC2.out);have hc3:=(blk_cell HC3.out 2).trans rfl;have hf3:=blk_frozen HC3.out 2;clear ho1 hb1 hg1 hat))
    all_goals
     have BI : Aside0 (BldI w0 (w1.setCell ⟨g,2,none⟩ (.slice A3 nl c3)) g rows last (bj ++ pj) p):=⟨BldI.set_b hge HB3.out HC2.out HOb2.out HOp2.out HN.out HO3.out HG3.out HA3.out⟩
     have OO : Aside0 (Oth wr (w1.setCell ⟨g,2,none⟩ (.slice A3 nl c3)) g):=⟨((Oth.below (below_drew (Below.refl _ _))).trans (Oth.below HS2.out)).trans ((Oth.grown HOb2.out HG3.out).trans (Oth.set 2 _))⟩
     have HL3 : Aside0 ((w1.setCell ⟨g,2,none⟩ (.slice A3 nl c3)).heap[gL]? = some (.cells (([n,(key.size : Int) - n,(value.size : Int)] : List Int).map (Value.int .i64)).toArray 3 (0,0))):=⟨OO.out.2 _ _ 3 hLg (by decide) HL.out⟩
     have OO3 := Aside0.mk (HO.out.trans OO.out)
     obtain ⟨w3, hw3⟩ : ∃ w3, Aside0 (w3 = w1.setCell ⟨g, 2, none⟩ (.slice A3 nl c3)) := ⟨_, ⟨rfl⟩⟩
     rw [← hw3.out] at BI OO3 HL3 ⊢
     clear hw3 hc3 hf3 HC3 HA3 HG3 HB3 HO3 hc22 hf22 HS2 HC2 HP2 HOp2 HOb2 HB2 hc2 HC HN HOp HOb HB HO OO HL hcj
     have hwj : IntKind.i64.wrap ((j : Int) + 1) = ((j + 1 : Nat) : Int):=(i64_w _).trans (by unfold wrap64;omega)
     go_wp2_with (fail)
     go_roundg kk
     case measure => omega
     case rel => exact ⟨j + 1, bj ++ pj, rfl, by omega, HP, BI, HL3, OO3⟩
   ·rw [if_neg hpl] at hp2; cases hp2
end Go.Proofs.Ytenmljkddhonmaa.MTbl

namespace Go.Proofs.Ytenmljkddhonmaa.MTbl
open Go.RowKit Go.Proofs.YtenmljkddhonmaaW.PrintWords Go.Proofs.YtenmljkddhonmaaW.PrintLast Go.Proofs.YtenmljkddhonmaaW.PrintMore
set_option linter.unusedVariables false
set_option linter.unusedSimpArgs false
set_option maxHeartbeats 8000000 in
set_option maxRecDepth 100000 in
theorem block_Add_yesA.calls (k : Nat) (w0 w : World) (g : Nat) (rows : Int) (last key value : ByteArray) (b p p32 b1 : List Int) (hI : BldI w0 w g rows last b p) (hlt : (0 < rows∧Op.bytesLess last.toList key.toList = true) ∨ rows = 0)
  (h3 : rows.tmod 4 = 0) (hs : varint_Put32.f k (IntKind.u32.wrap (b.length : Int)) = some p32) (hb1 : putAll k [0,(key.size : Int),value.size] b = some b1) (hr9 : rows < 4611686018427387904) (hks : key.size < 1000000) (hvs : value.size < 1000000) (hbl : b1.length < 100000000000) (hpl0 : p.length + p32.length < 100000000000) :
  Calls Try.prog 45 #[.pointer (some ⟨g,0,none⟩),.string key,.string value] w fun e w'=>e = .returned (.bool true)∧BldI w0 w' g (rows + 1) key (b1 ++ bytesOf key ++ bytesOf value) (p ++ p32)∧Oth w w' g:=by
 have hr0 : -1 < rows := by omega
 have HI : Aside0 (BldI w0 w g rows last b p) := ⟨hI⟩
 obtain ⟨hge, hB, vb, vp, hC, hO, hP, hn⟩ := hI
 have h0 : w.cell? ⟨g, 0, none⟩ = some (.int .i64 rows) := (blk_cell hC 0).trans rfl
 have hl : w.cell? ⟨g, 1, none⟩ = some (.string last) := (blk_cell hC 1).trans rfl
 have hc2 : w.cell? ⟨g, 2, none⟩ = some vb := (blk_cell hC 2).trans rfl
 have hc3 : w.cell? ⟨g, 3, none⟩ = some vp := (blk_cell hC 3).trans rfl
 have HB := Aside0.mk hB
 have HOb := Aside0.mk hO
 have HOp := Aside0.mk hP
 have HN := Aside0.mk hn
 have HC := Aside0.mk hC
 obtain ⟨A1, c1, e1⟩ := Kd.R_slice hO
 subst e1
 clear hB hC hO hP hn
 have hu82 := Try.underlying82
 have hrm : (rows.tmod 4 == 0) = true := beq_iff_eq.mpr h3
 have hrm2 : (rows % 4 == 0) = true := by rw [← Int.tmod_eq_emod_of_nonneg (by omega)]; exact hrm
 have HS := Aside0.mk hs
 have HA := Aside0.mk hb1
 rcases hlt with ⟨h1, h2⟩ | h1
 ·have hr : (0 < rows) = True := eq_true h1
  have hle : binOp .leq 9 (.string key) (.string last) = pure (.bool false) := by rw [binOp_string_leq_, h2]; rfl
  clear h2 h1 h3 hs hb1
  go_enter Try.func45, Try.ntmps45
  go_wp2_with (fail)
  go_region_law (first
   | (go_simp;go_at_call 52;(with_reducible refine (varint_Put32.calls k (IntKind.u32.wrap (b.length : Int)) p32 _ HS.out).mono ?_);rintro e w' ⟨v0,rfl,ho,hb⟩;obtain ⟨A2,c2,e2⟩:=Kd.R_slice ho;subst e2;have HB2:=Aside0.mk (below_step (below_drew1 HB.out) hb);have HOb2:=Aside0.mk (Kd.R_below (Kd.R_drew HOb.out) hb);have HOp2:=Aside0.mk (Kd.R_below (Kd.R_drew HOp.out) hb);have HP2:=Aside0.mk (Kd.R_reads' ho).2.2;have HC2:=Aside0.mk ((hb.block g (blk_lt HC.out)).trans HC.out);have HS2:=Aside0.mk hb;have hc22:=(blk_cell HC2.out 3).trans rfl;have hf22:=blk_frozen HC2.out 3;clear ho hb)
   | (refine Kd.R_append_rows_step (Kd.int .u8) (w0:=w0) w0.heap.size (by rfl) (.tmp 37) (.tmp 44) 43 5 (.int .u8 0) 1 rfl Try.underlying43 info5 rfl (by decide) (by omega) vp p p32 _ _ _ (fun k=>k ≠ g) (fun _=>False) (by rfl) (by rfl) ?aO ?aR (fun _ _ h=>h) (fun _ h=>h.elim) ?aF ?aB ?aS ?aL ?_;(case aO=>exact HOp2.out);(case aR=>exact HP2.out);(case aF=>exact fun i hi=>by have:=blk_lt HC2.out;omega);(case aB=>exact HB2.out);(case aS=>exact below_size HB2.out);(case aL=>omega);intro v1 w1 ho1 hb1 hg1 hat;obtain ⟨A3,c3,e3⟩:=Kd.R_slice ho1;obtain ⟨nl,hnl⟩ : ∃ nl,Aside0 (nl = (p ++ p32).length):=⟨_,⟨rfl⟩⟩;rw [← hnl.out] at e3;subst e3;have HO3:=Aside0.mk ho1;have HB3:=Aside0.mk hb1;have HG3:=Aside0.mk hg1;have HA3:=Aside0.mk hat;have HC3:=Aside0.mk ((hg1.block g (blk_lt HC2.out) (Kd.R_away HOp2.out (fun _ h=>h))).trans HC2.out);have hc33:=(blk_cell HC3.out 3).trans rfl;have hf3:=blk_frozen HC3.out 3;clear ho1 hb1 hg1 hat))
  all_goals
   have BI : Aside0 (BldI w0 (w1.setCell ⟨g,3,none⟩ (.slice A3 nl c3)) g rows last b (p ++ p32)):=⟨BldI.set_p hge HB3.out HC2.out HOb2.out HOp2.out HN.out HO3.out HG3.out HA3.out⟩
   have OO : Aside0 (Oth w (w1.setCell ⟨g,3,none⟩ (.slice A3 nl c3)) g):=⟨((Oth.below (below_drew (Below.refl _ _))).trans (Oth.below HS2.out)).trans ((Oth.grown HOp2.out HG3.out).trans (Oth.set 3 _))⟩
   obtain ⟨ww, hww⟩ : ∃ ww, Aside0 (ww = w1.setCell ⟨g, 3, none⟩ (.slice A3 nl c3)) := ⟨_, ⟨rfl⟩⟩
   rw [← hww.out] at BI OO ⊢
   clear hww hc33 hf3 HC3 HA3 HG3 HB3 HO3 hc22 hf22 HS2 HC2 HP2 HOp2 HOb2 HB2 hc2 hc3 HC HN HOp HOb HB h0 hl HS HI
   have HI1 := BI
   have HO1 := OO
   clear BI OO
   go_wp2_with (fail)
   obtain ⟨gL, hgL⟩ : ∃ gL, Aside0 (gL = ww.heap.size) := ⟨_, ⟨rfl⟩⟩
   have hLg : gL ≠ g := by
    obtain ⟨_, _, _, _, hc_, _⟩ := HI1.out
    have := blk_lt hc_
    have := hgL.out
    omega
   have HI2 : Aside0 (BldI w0 (ww.alloc (.cells #[.int .i64 0,.int .i64 (key.size : Int),.int .i64 value.size] 3)) g rows last b (p ++ p32)):=⟨HI1.out.below (below_alloc (Below.refl _ _) _)⟩
   have HO2 : Aside0 (Oth w (ww.alloc (.cells #[.int .i64 0,.int .i64 (key.size : Int),.int .i64 value.size] 3)) g):=⟨HO1.out.trans (Oth.below (below_alloc (Below.refl _ _) _))⟩
   have HL : Aside0 ((ww.alloc (.cells #[.int .i64 0,.int .i64 (key.size : Int),.int .i64 value.size] 3)).heap[gL]? = some (.cells (([0,(key.size : Int),(value.size : Int)] : List Int).map (Value.int .i64)).toArray 3 (0,0))):=⟨alloc_new_ _ _ _ hgL.out⟩
   rw [← hgL.out]
   go_loopg [63] 3 (fun kx s63 wr=>∃ (j : Nat) (bj : List Int),s63 = .int .i64 j∧j + kx = 3∧Aside0 (putAll k (([0,(key.size : Int),(value.size : Int)] : List Int).drop j) bj = some b1)∧Aside0 (BldI w0 wr g rows last bj (p ++ p32))∧Aside0 (wr.heap[gL]? = some (.cells (([0,(key.size : Int),(value.size : Int)] : List Int).map (Value.int .i64)).toArray 3 (0,0)))∧Aside0 (Oth w wr g))
   case atStart => exact ⟨0, b, rfl, rfl, HA, HI2, HL, HO2⟩
   case round =>
    clear HI1 HO1 HI2 HO2 HL HA hgL
    obtain ⟨j, bj, rfl, hk, HP, HI, HL, HO⟩ := hrel
    cases gk with
    | zero =>
     have hj : ((j : Int) < 3) = False := eq_false (by omega)
     have hbe : bj = b1 := by
      have h_ := HP.out
      rw [List.drop_eq_nil_of_le (by simp only [List.length_cons, List.length_nil]; omega)] at h_
      exact Option.some.inj h_
     subst hbe
     clear HP HL
     obtain ⟨hge, hB, vb, vp, hC, hO, hP, hn⟩ := HI.out
     have HB := Aside0.mk hB
     have HOb := Aside0.mk hO
     have HOp := Aside0.mk hP
     have HN := Aside0.mk hn
     have HC := Aside0.mk hC
     have hc2 : wr.cell? ⟨g, 2, none⟩ = some vb := (blk_cell hC 2).trans rfl
     clear HI hB hO hP hn hC
     go_wp2_with (fail)
     go_region_law (first
      | (refine R_append_str_step (w0:=w0) w0.heap.size (by rfl) (.tmp 83) (.tmp 86) 43 9 5 rfl Try.underlying43 Try.underlying9 info5 vb bj key (fun k=>k ≠ g) (by rfl) (by rfl) ?aO ?aF ?aB ?aS ?aL ?_;(case aO=>first | exact HOb.out | exact Kd.R_drew HOb.out);(case aF=>exact fun i hi=>by have:=blk_lt HC.out;have hi : wr.heap.size ≤ i:=hi;omega);(case aB=>first | exact HB.out | exact below_drew1 HB.out);(case aS=>first | exact below_size HB.out | exact below_size (below_drew1 HB.out));(case aL=>omega);intro v1 w1 ho1 hb1 hg1 hat1;have HO1:=Aside0.mk ho1;have HB1:=Aside0.mk hb1;have HG1:=Aside0.mk hg1;have HA1:=Aside0.mk hat1;have HC1:=Aside0.mk ((hg1.block g (blk_lt HC.out) (Kd.R_away HOb.out (fun _ h=>h))).trans HC.out);clear ho1 hb1 hg1 hat1)
      | (refine R_append_str_step (w0:=w0) w0.heap.size (by rfl) (.tmp 87) (.tmp 88) 43 9 5 rfl Try.underlying43 Try.underlying9 info5 v1 (bj ++ bytesOf (key)) value (fun k=>k ≠ g) (by rfl) (by rfl) ?aO ?aF ?aB ?aS ?aL ?_;(case aO=>exact HO1.out);(case aF=>exact fun i hi=>by have:=blk_lt HC.out;have h_ : wr.heap.size ≤ w1.heap.size:=HG1.out.size;omega);(case aB=>exact HB1.out);(case aS=>exact below_size HB1.out);(case aL=>rw [List.length_append,bytesOf_length];omega);intro v2 w2 ho2 hb2 hg2 hat2;obtain ⟨A3,c3,e3⟩:=Kd.R_slice ho2;obtain ⟨nl,hnl⟩ : ∃ nl,Aside0 (nl = (bj ++ bytesOf key ++ bytesOf value).length):=⟨_,⟨rfl⟩⟩;rw [← hnl.out] at e3;subst e3;have hc3:=(blk_cell ((hg2.block g (blk_lt HC1.out) (Kd.R_away HO1.out (fun _ h=>h))).trans HC1.out) 2).trans rfl;have hf3:=blk_frozen ((hg2.block g (blk_lt HC1.out) (Kd.R_away HO1.out (fun _ h=>h))).trans HC1.out) 2;have HO2:=Aside0.mk ho2;have HB2:=Aside0.mk hb2;have HG2:=Aside0.mk hg2;have HA2:=Aside0.mk hat2;clear ho2 hb2 hg2 hat2))
     all_goals
      have BI : Aside0 (BldI w0 (w2.setCell ⟨g,2,none⟩ _) g rows last (bj ++ bytesOf key ++ bytesOf value) (p ++ p32)):=⟨BldI.set_b hge HB2.out HC1.out HO1.out (R_beside (Kd.R_drew HOp.out) HG1.out (ne_sym HN.out)) (ne_after (w:=wr.drew) (Kd.R_lt (Kd.R_drew HOp.out)) HA1.out HN.out) HO2.out HG2.out HA2.out⟩
      have OO : Aside0 (Oth w (w2.setCell ⟨g,2,none⟩ (.slice A3 nl c3)) g):=⟨((HO.out.trans (Oth.below (below_drew (Below.refl _ _)))).trans (Oth.grown (Kd.R_drew HOb.out) HG1.out)).trans ((Oth.grown HO1.out HG2.out).trans (Oth.set 2 _))⟩
      obtain ⟨w3, hw3⟩ : ∃ w3, Aside0 (w3 = w2.setCell ⟨g, 2, none⟩ (.slice A3 nl c3)) := ⟨_, ⟨rfl⟩⟩
      rw [← hw3.out] at BI OO ⊢
      clear hw3 hc3 hf3 HO2 HB2 HG2 HA2 HC1 HA1 HG1 HB1 HO1 hc2 HC HN HOp HOb HB HO
      obtain ⟨_, _, vb3, vp3, hC3, _⟩ := BI.out
      have h30 : w3.cell? ⟨g, 0, none⟩ = some (.int .i64 rows) := (blk_cell hC3 0).trans rfl
      have hf30 : w3.frozen? ⟨g, 0, none⟩ = false := blk_frozen hC3 0
      have hf31 : (w3.setCell ⟨g,0,none⟩ (.int .i64 (rows + 1))).frozen? ⟨g,1,none⟩ = false:=blk_frozen (blk_set hC3 0 _) 1
      have hc31 : (w3.setCell ⟨g,0,none⟩ (.int .i64 (rows + 1))).cell? ⟨g,1,none⟩ = some (.string last):=(blk_cell (blk_set hC3 0 _) 1).trans rfl
      have hwr : IntKind.i64.wrap (rows + 1) = rows + 1 := (i64_w _).trans (by unfold wrap64; omega)
      clear hC3
      go_wp2_with (fail)
      go_ret
      exact ⟨rfl, (BI.out.set_0 _).set_1 _, OO.out.trans ((Oth.set 0 _).trans (Oth.set 1 _))⟩
    | succ kk =>
     have hj : ((j : Int) < 3) = True := eq_true (by omega)
     have hj0 : ((0 : Int) ≤ (j : Int)) = True := eq_true (by omega)
     have hj1 : (j < 3) = True := eq_true (by omega)
     have hjl : j < ([0,(key.size : Int),(value.size : Int)] : List Int).length:=by simp only [List.length_cons,List.length_nil];omega
     have hdj := drop_getD_ ([0, (key.size : Int), (value.size : Int)] : List Int) j hjl
     have hcj := (blk_cell HL.out j).trans (map_get ([0, (key.size : Int), (value.size : Int)] : List Int) j hjl)
     have hp_ := HP.out
     rw [hdj] at hp_
     clear HP hdj
     generalize ([0, (key.size : Int), (value.size : Int)] : List Int).getD j 0 = nj at hp_ hcj
     simp only [putAll] at hp_
     obtain ⟨pj, hp1, hp2⟩ := Option.bind_eq_some_iff.mp hp_
     by_cases hpl : bj.length + pj.length < 140737488355328
     ·rw [if_pos hpl] at hp2
      have HP := Aside0.mk hp2
      have HQ := Aside0.mk hp1
      clear hp_ hp1 hp2
      obtain ⟨hge, hB, vb, vp, hC, hO, hP, hn⟩ := HI.out
      have HB := Aside0.mk hB
      have HOb := Aside0.mk hO
      have HOp := Aside0.mk hP
      have HN := Aside0.mk hn
      have HC := Aside0.mk hC
      have hc2 : wr.cell? ⟨g, 2, none⟩ = some vb := (blk_cell hC 2).trans rfl
      clear HI hB hO hP hn hC
      go_wp2_with (fail)
      go_region_law (first
       | (go_simp;go_at_call 44;(with_reducible refine (varint_Put.calls k (IntKind.u64.wrap nj) pj _ HQ.out).mono ?_);rintro e w' ⟨v0,rfl,ho,hb⟩;obtain ⟨A1,c1,e1⟩:=Kd.R_slice ho;subst e1;have HB2:=Aside0.mk (below_step (below_drew1 HB.out) hb);have HOb2:=Aside0.mk (Kd.R_below (Kd.R_drew HOb.out) hb);have HOp2:=Aside0.mk (Kd.R_below (Kd.R_drew HOp.out) hb);have HP2:=Aside0.mk (Kd.R_reads' ho).2.2;have HC2:=Aside0.mk ((hb.block g (blk_lt HC.out)).trans HC.out);have HS2:=Aside0.mk hb;have hc22:=(blk_cell HC2.out 2).trans rfl;have hf22:=blk_frozen HC2.out 2;clear ho hb)
       | (refine Kd.R_append_rows_step (Kd.int .u8) (w0:=w0) w0.heap.size (by rfl) (.tmp 71) (.tmp 74) 43 5 (.int .u8 0) 1 rfl Try.underlying43 info5 rfl (by decide) (by omega) vb bj pj _ _ _ (fun k=>k ≠ g) (fun _=>False) (by rfl) (by rfl) ?aO ?aR (fun _ _ h=>h) (fun _ h=>h.elim) ?aF ?aB ?aS ?aL ?_;(case aO=>exact HOb2.out);(case aR=>exact HP2.out);(case aF=>exact fun i hi=>by have:=blk_lt HC2.out;omega);(case aB=>exact HB2.out);(case aS=>exact below_size HB2.out);(case aL=>omega);intro v1 w1 ho1 hb1 hg1 hat;obtain ⟨A3,c3,e3⟩:=Kd.R_slice ho1;obtain ⟨nl,hnl⟩ : ∃ nl,Aside0 (nl = (bj ++ pj).length):=⟨_,⟨rfl⟩⟩;rw [← hnl.out] at e3;subst e3;have HO3:=Aside0.mk ho1;have HB3:=Aside0.mk hb1;have HG3:=Aside0.mk hg1;have HA3:=Aside0.mk hat;have HC3:=Aside0.mk ((hg1.block g (blk_lt HC2.out) (Kd.R_away HOb2.out (fun _ h=>h))).trans HC2.out);have hc3:=(blk_cell HC3.out 2).trans rfl;have hf3:=blk_frozen HC3.out 2;clear ho1 hb1 hg1 hat))
      all_goals
       have BI : Aside0 (BldI w0 (w1.setCell ⟨g,2,none⟩ (.slice A3 nl c3)) g rows last (bj ++ pj) (p ++ p32)):=⟨BldI.set_b hge HB3.out HC2.out HOb2.out HOp2.out HN.out HO3.out HG3.out HA3.out⟩
       have OO : Aside0 (Oth wr (w1.setCell ⟨g,2,none⟩ (.slice A3 nl c3)) g):=⟨((Oth.below (below_drew (Below.refl _ _))).trans (Oth.below HS2.out)).trans ((Oth.grown HOb2.out HG3.out).trans (Oth.set 2 _))⟩
       have HL3 : Aside0 ((w1.setCell ⟨g,2,none⟩ (.slice A3 nl c3)).heap[gL]? = some (.cells (([0,(key.size : Int),(value.size : Int)] : List Int).map (Value.int .i64)).toArray 3 (0,0))):=⟨OO.out.2 _ _ 3 hLg (by decide) HL.out⟩
       have OO3 := Aside0.mk (HO.out.trans OO.out)
       obtain ⟨w3, hw3⟩ : ∃ w3, Aside0 (w3 = w1.setCell ⟨g, 2, none⟩ (.slice A3 nl c3)) := ⟨_, ⟨rfl⟩⟩
       rw [← hw3.out] at BI OO3 HL3 ⊢
       clear hw3 hc3 hf3 HC3 HA3 HG3 HB3 HO3 hc22 hf22 HS2 HC2 HP2 HOp2 HOb2 HB2 hc2 HC HN HOp HOb HB HO OO HL hcj
       have hwj : IntKind.i64.wrap ((j : Int) + 1) = ((j + 1 : Nat) : Int):=(i64_w _).trans (by unfold wrap64;omega)
       go_wp2_with (fail)
       go_roundg kk
       case measure => omega
       case rel => exact ⟨j + 1, bj ++ pj, rfl, by omega, HP, BI, HL3, OO3⟩
     ·rw [if_neg hpl] at hp2; cases hp2
 ·have hr : (0 < rows) = False := eq_false (by omega)
  clear h1 h3 hs hb1
  go_enter Try.func45, Try.ntmps45
  go_wp2_with (fail)
  go_region_law (first
   | (go_simp;go_at_call 52;(with_reducible refine (varint_Put32.calls k (IntKind.u32.wrap (b.length : Int)) p32 _ HS.out).mono ?_);rintro e w' ⟨v0,rfl,ho,hb⟩;obtain ⟨A2,c2,e2⟩:=Kd.R_slice ho;subst e2;have HB2:=Aside0.mk (below_step (below_drew1 HB.out) hb);have HOb2:=Aside0.mk (Kd.R_below (Kd.R_drew HOb.out) hb);have HOp2:=Aside0.mk (Kd.R_below (Kd.R_drew HOp.out) hb);have HP2:=Aside0.mk (Kd.R_reads' ho).2.2;have HC2:=Aside0.mk ((hb.block g (blk_lt HC.out)).trans HC.out);have HS2:=Aside0.mk hb;have hc22:=(blk_cell HC2.out 3).trans rfl;have hf22:=blk_frozen HC2.out 3;clear ho hb)
   | (refine Kd.R_append_rows_step (Kd.int .u8) (w0:=w0) w0.heap.size (by rfl) (.tmp 37) (.tmp 44) 43 5 (.int .u8 0) 1 rfl Try.underlying43 info5 rfl (by decide) (by omega) vp p p32 _ _ _ (fun k=>k ≠ g) (fun _=>False) (by rfl) (by rfl) ?aO ?aR (fun _ _ h=>h) (fun _ h=>h.elim) ?aF ?aB ?aS ?aL ?_;(case aO=>exact HOp2.out);(case aR=>exact HP2.out);(case aF=>exact fun i hi=>by have:=blk_lt HC2.out;omega);(case aB=>exact HB2.out);(case aS=>exact below_size HB2.out);(case aL=>omega);intro v1 w1 ho1 hb1 hg1 hat;obtain ⟨A3,c3,e3⟩:=Kd.R_slice ho1;obtain ⟨nl,hnl⟩ : ∃ nl,Aside0 (nl = (p ++ p32).length):=⟨_,⟨rfl⟩⟩;rw [← hnl.out] at e3;subst e3;have HO3:=Aside0.mk ho1;have HB3:=Aside0.mk hb1;have HG3:=Aside0.mk hg1;have HA3:=Aside0.mk hat;have HC3:=Aside0.mk ((hg1.block g (blk_lt HC2.out) (Kd.R_away HOp2.out (fun _ h=>h))).trans HC2.out);have hc33:=(blk_cell HC3.out 3).trans rfl;have hf3:=blk_frozen HC3.out 3;clear ho1 hb1 hg1 hat))
  all_goals
   have BI : Aside0 (BldI w0 (w1.setCell ⟨g,3,none⟩ (.slice A3 nl c3)) g rows last b (p ++ p32)):=⟨BldI.set_p hge HB3.out HC2.out HOb2.out HOp2.out HN.out HO3.out HG3.out HA3.out⟩
   have OO : Aside0 (Oth w (w1.setCell ⟨g,3,none⟩ (.slice A3 nl c3)) g):=⟨((Oth.below (below_drew (Below.refl _ _))).trans (Oth.below HS2.out)).trans ((Oth.grown HOp2.out HG3.out).trans (Oth.set 3 _))⟩
   obtain ⟨ww, hww⟩ : ∃ ww, Aside0 (ww = w1.setCell ⟨g, 3, none⟩ (.slice A3 nl c3)) := ⟨_, ⟨rfl⟩⟩
   rw [← hww.out] at BI OO ⊢
   clear hww hc33 hf3 HC3 HA3 HG3 HB3 HO3 hc22 hf22 HS2 HC2 HP2 HOp2 HOb2 HB2 hc2 hc3 HC HN HOp HOb HB h0 hl HS HI
   have HI1 := BI
   have HO1 := OO
   clear BI OO
   go_wp2_with (fail)
   obtain ⟨gL, hgL⟩ : ∃ gL, Aside0 (gL = ww.heap.size) := ⟨_, ⟨rfl⟩⟩
   have hLg : gL ≠ g := by
    obtain ⟨_, _, _, _, hc_, _⟩ := HI1.out
    have := blk_lt hc_
    have := hgL.out
    omega
   have HI2 : Aside0 (BldI w0 (ww.alloc (.cells #[.int .i64 0,.int .i64 (key.size : Int),.int .i64 value.size] 3)) g rows last b (p ++ p32)):=⟨HI1.out.below (below_alloc (Below.refl _ _) _)⟩
   have HO2 : Aside0 (Oth w (ww.alloc (.cells #[.int .i64 0,.int .i64 (key.size : Int),.int .i64 value.size] 3)) g):=⟨HO1.out.trans (Oth.below (below_alloc (Below.refl _ _) _))⟩
   have HL : Aside0 ((ww.alloc (.cells #[.int .i64 0,.int .i64 (key.size : Int),.int .i64 value.size] 3)).heap[gL]? = some (.cells (([0,(key.size : Int),(value.size : Int)] : List Int).map (Value.int .i64)).toArray 3 (0,0))):=⟨alloc_new_ _ _ _ hgL.out⟩
   rw [← hgL.out]
   go_loopg [63] 3 (fun kx s63 wr=>∃ (j : Nat) (bj : List Int),s63 = .int .i64 j∧j + kx = 3∧Aside0 (putAll k (([0,(key.size : Int),(value.size : Int)] : List Int).drop j) bj = some b1)∧Aside0 (BldI w0 wr g rows last bj (p ++ p32))∧Aside0 (wr.heap[gL]? = some (.cells (([0,(key.size : Int),(value.size : Int)] : List Int).map (Value.int .i64)).toArray 3 (0,0)))∧Aside0 (Oth w wr g))
   case atStart => exact ⟨0, b, rfl, rfl, HA, HI2, HL, HO2⟩
   case round =>
    clear HI1 HO1 HI2 HO2 HL HA hgL
    obtain ⟨j, bj, rfl, hk, HP, HI, HL, HO⟩ := hrel
    cases gk with
    | zero =>
     have hj : ((j : Int) < 3) = False := eq_false (by omega)
     have hbe : bj = b1 := by
      have h_ := HP.out
      rw [List.drop_eq_nil_of_le (by simp only [List.length_cons, List.length_nil]; omega)] at h_
      exact Option.some.inj h_
     subst hbe
     clear HP HL
     obtain ⟨hge, hB, vb, vp, hC, hO, hP, hn⟩ := HI.out
     have HB := Aside0.mk hB
     have HOb := Aside0.mk hO
     have HOp := Aside0.mk hP
     have HN := Aside0.mk hn
     have HC := Aside0.mk hC
     have hc2 : wr.cell? ⟨g, 2, none⟩ = some vb := (blk_cell hC 2).trans rfl
     clear HI hB hO hP hn hC
     go_wp2_with (fail)
     go_region_law (first
      | (refine R_append_str_step (w0:=w0) w0.heap.size (by rfl) (.tmp 83) (.tmp 86) 43 9 5 rfl Try.underlying43 Try.underlying9 info5 vb bj key (fun k=>k ≠ g) (by rfl) (by rfl) ?aO ?aF ?aB ?aS ?aL ?_;(case aO=>first | exact HOb.out | exact Kd.R_drew HOb.out);(case aF=>exact fun i hi=>by have:=blk_lt HC.out;have hi : wr.heap.size ≤ i:=hi;omega);(case aB=>first | exact HB.out | exact below_drew1 HB.out);(case aS=>first | exact below_size HB.out | exact below_size (below_drew1 HB.out));(case aL=>omega);intro v1 w1 ho1 hb1 hg1 hat1;have HO1:=Aside0.mk ho1;have HB1:=Aside0.mk hb1;have HG1:=Aside0.mk hg1;have HA1:=Aside0.mk hat1;have HC1:=Aside0.mk ((hg1.block g (blk_lt HC.out) (Kd.R_away HOb.out (fun _ h=>h))).trans HC.out);clear ho1 hb1 hg1 hat1)
      | (refine R_append_str_step (w0:=w0) w0.heap.size (by rfl) (.tmp 87) (.tmp 88) 43 9 5 rfl Try.underlying43 Try.underlying9 info5 v1 (bj ++ bytesOf (key)) value (fun k=>k ≠ g) (by rfl) (by rfl) ?aO ?aF ?aB ?aS ?aL ?_;(case aO=>exact HO1.out);(case aF=>exact fun i hi=>by have:=blk_lt HC.out;have h_ : wr.heap.size ≤ w1.heap.size:=HG1.out.size;omega);(case aB=>exact HB1.out);(case aS=>exact below_size HB1.out);(case aL=>rw [List.length_append,bytesOf_length];omega);intro v2 w2 ho2 hb2 hg2 hat2;obtain ⟨A3,c3,e3⟩:=Kd.R_slice ho2;obtain ⟨nl,hnl⟩ : ∃ nl,Aside0 (nl = (bj ++ bytesOf key ++ bytesOf value).length):=⟨_,⟨rfl⟩⟩;rw [← hnl.out] at e3;subst e3;have hc3:=(blk_cell ((hg2.block g (blk_lt HC1.out) (Kd.R_away HO1.out (fun _ h=>h))).trans HC1.out) 2).trans rfl;have hf3:=blk_frozen ((hg2.block g (blk_lt HC1.out) (Kd.R_away HO1.out (fun _ h=>h))).trans HC1.out) 2;have HO2:=Aside0.mk ho2;have HB2:=Aside0.mk hb2;have HG2:=Aside0.mk hg2;have HA2:=Aside0.mk hat2;clear ho2 hb2 hg2 hat2))
     all_goals
      have BI : Aside0 (BldI w0 (w2.setCell ⟨g,2,none⟩ _) g rows last (bj ++ bytesOf key ++ bytesOf value) (p ++ p32)):=⟨BldI.set_b hge HB2.out HC1.out HO1.out (R_beside (Kd.R_drew HOp.out) HG1.out (ne_sym HN.out)) (ne_after (w:=wr.drew) (Kd.R_lt (Kd.R_drew HOp.out)) HA1.out HN.out) HO2.out HG2.out HA2.out⟩
      have OO : Aside0 (Oth w (w2.setCell ⟨g,2,none⟩ (.slice A3 nl c3)) g):=⟨((HO.out.trans (Oth.below (below_drew (Below.refl _ _)))).trans (Oth.grown (Kd.R_drew HOb.out) HG1.out)).trans ((Oth.grown HO1.out HG2.out).trans (Oth.set 2 _))⟩
      obtain ⟨w3, hw3⟩ : ∃ w3, Aside0 (w3 = w2.setCell ⟨g, 2, none⟩ (.slice A3 nl c3)) := ⟨_, ⟨rfl⟩⟩
      rw [← hw3.out] at BI OO ⊢
      clear hw3 hc3 hf3 HO2 HB2 HG2 HA2 HC1 HA1 HG1 HB1 HO1 hc2 HC HN HOp HOb HB HO
      obtain ⟨_, _, vb3, vp3, hC3, _⟩ := BI.out
      have h30 : w3.cell? ⟨g, 0, none⟩ = some (.int .i64 rows) := (blk_cell hC3 0).trans rfl
      have hf30 : w3.frozen? ⟨g, 0, none⟩ = false := blk_frozen hC3 0
      have hf31 : (w3.setCell ⟨g,0,none⟩ (.int .i64 (rows + 1))).frozen? ⟨g,1,none⟩ = false:=blk_frozen (blk_set hC3 0 _) 1
      have hc31 : (w3.setCell ⟨g,0,none⟩ (.int .i64 (rows + 1))).cell? ⟨g,1,none⟩ = some (.string last):=(blk_cell (blk_set hC3 0 _) 1).trans rfl
      have hwr : IntKind.i64.wrap (rows + 1) = rows + 1 := (i64_w _).trans (by unfold wrap64; omega)
      clear hC3
      go_wp2_with (fail)
      go_ret
      exact ⟨rfl, (BI.out.set_0 _).set_1 _, OO.out.trans ((Oth.set 0 _).trans (Oth.set 1 _))⟩
    | succ kk =>
     have hj : ((j : Int) < 3) = True := eq_true (by omega)
     have hj0 : ((0 : Int) ≤ (j : Int)) = True := eq_true (by omega)
     have hj1 : (j < 3) = True := eq_true (by omega)
     have hjl : j < ([0,(key.size : Int),(value.size : Int)] : List Int).length:=by simp only [List.length_cons,List.length_nil];omega
     have hdj := drop_getD_ ([0, (key.size : Int), (value.size : Int)] : List Int) j hjl
     have hcj := (blk_cell HL.out j).trans (map_get ([0, (key.size : Int), (value.size : Int)] : List Int) j hjl)
     have hp_ := HP.out
     rw [hdj] at hp_
     clear HP hdj
     generalize ([0, (key.size : Int), (value.size : Int)] : List Int).getD j 0 = nj at hp_ hcj
     simp only [putAll] at hp_
     obtain ⟨pj, hp1, hp2⟩ := Option.bind_eq_some_iff.mp hp_
     by_cases hpl : bj.length + pj.length < 140737488355328
     ·rw [if_pos hpl] at hp2
      have HP := Aside0.mk hp2
      have HQ := Aside0.mk hp1
      clear hp_ hp1 hp2
      obtain ⟨hge, hB, vb, vp, hC, hO, hP, hn⟩ := HI.out
      have HB := Aside0.mk hB
      have HOb := Aside0.mk hO
      have HOp := Aside0.mk hP
      have HN := Aside0.mk hn
      have HC := Aside0.mk hC
      have hc2 : wr.cell? ⟨g, 2, none⟩ = some vb := (blk_cell hC 2).trans rfl
      clear HI hB hO hP hn hC
      go_wp2_with (fail)
      go_region_law (first
       | (go_simp;go_at_call 44;(with_reducible refine (varint_Put.calls k (IntKind.u64.wrap nj) pj _ HQ.out).mono ?_);rintro e w' ⟨v0,rfl,ho,hb⟩;obtain ⟨A1,c1,e1⟩:=Kd.R_slice ho;subst e1;have HB2:=Aside0.mk (below_step (below_drew1 HB.out) hb);have HOb2:=Aside0.mk (Kd.R_below (Kd.R_drew HOb.out) hb);have HOp2:=Aside0.mk (Kd.R_below (Kd.R_drew HOp.out) hb);have HP2:=Aside0.mk (Kd.R_reads' ho).2.2;have HC2:=Aside0.mk ((hb.block g (blk_lt HC.out)).trans HC.out);have HS2:=Aside0.mk hb;have hc22:=(blk_cell HC2.out 2).trans rfl;have hf22:=blk_frozen HC2.out 2;clear ho hb)
       | (refine Kd.R_append_rows_step (Kd.int .u8) (w0:=w0) w0.heap.size (by rfl) (.tmp 71) (.tmp 74) 43 5 (.int .u8 0) 1 rfl Try.underlying43 info5 rfl (by decide) (by omega) vb bj pj _ _ _ (fun k=>k ≠ g) (fun _=>False) (by rfl) (by rfl) ?aO ?aR (fun _ _ h=>h) (fun _ h=>h.elim) ?aF ?aB ?aS ?aL ?_;(case aO=>exact HOb2.out);(case aR=>exact HP2.out);(case aF=>exact fun i hi=>by have:=blk_lt HC2.out;omega);(case aB=>exact HB2.out);(case aS=>exact below_size HB2.out);(case aL=>omega);intro v1 w1 ho1 hb1 hg1 hat;obtain ⟨A3,c3,e3⟩:=Kd.R_slice ho1;obtain ⟨nl,hnl⟩ : ∃ nl,Aside0 (nl = (bj ++ pj).length):=⟨_,⟨rfl⟩⟩;rw [← hnl.out] at e3;subst e3;have HO3:=Aside0.mk ho1;have HB3:=Aside0.mk hb1;have HG3:=Aside0.mk hg1;have HA3:=Aside0.mk hat;have HC3:=Aside0.mk ((hg1.block g (blk_lt HC2.out) (Kd.R_away HOb2.out (fun _ h=>h))).trans HC2.out);have hc3:=(blk_cell HC3.out 2).trans rfl;have hf3:=blk_frozen HC3.out 2;clear ho1 hb1 hg1 hat))
      all_goals
       have BI : Aside0 (BldI w0 (w1.setCell ⟨g,2,none⟩ (.slice A3 nl c3)) g rows last (bj ++ pj) (p ++ p32)):=⟨BldI.set_b hge HB3.out HC2.out HOb2.out HOp2.out HN.out HO3.out HG3.out HA3.out⟩
       have OO : Aside0 (Oth wr (w1.setCell ⟨g,2,none⟩ (.slice A3 nl c3)) g):=⟨((Oth.below (below_drew (Below.refl _ _))).trans (Oth.below HS2.out)).trans ((Oth.grown HOb2.out HG3.out).trans (Oth.set 2 _))⟩
       have HL3 : Aside0 ((w1.setCell ⟨g,2,none⟩ (.slice A3 nl c3)).heap[gL]? = some (.cells (([0,(key.size : Int),(value.size : Int)] : List Int).map (Value.int .i64)).toArray 3 (0,0))):=⟨OO.out.2 _ _ 3 hLg (by decide) HL.out⟩
       have OO3 := Aside0.mk (HO.out.trans OO.out)
       obtain ⟨w3, hw3⟩ : ∃ w3, Aside0 (w3 = w1.setCell ⟨g, 2, none⟩ (.slice A3 nl c3)) := ⟨_, ⟨rfl⟩⟩
       rw [← hw3.out] at BI OO3 HL3 ⊢
       clear hw3 hc3 hf3 HC3 HA3 HG3 HB3 HO3 hc22 hf22 HS2 HC2 HP2 HOp2 HOb2 HB2 hc2 HC HN HOp HOb HB HO OO HL hcj
       have hwj : IntKind.i64.wrap ((j : Int) + 1) = ((j + 1 : Nat) : Int):=(i64_w _).trans (by unfold wrap64;omega)
       go_wp2_with (fail)
       go_roundg kk
       case measure => omega
       case rel => exact ⟨j + 1, bj ++ pj, rfl, by omega, HP, BI, HL3, OO3⟩
     ·rw [if_neg hpl] at hp2; cases hp2
end Go.Proofs.Ytenmljkddhonmaa.MTbl

namespace Go.Proofs.Ytenmljkddhonmaa.MTbl
open Go.RowKit Go.Proofs.YtenmljkddhonmaaW.PrintWords Go.Proofs.YtenmljkddhonmaaW.PrintLast Go.Proofs.YtenmljkddhonmaaW.PrintMore
set_option linter.unusedVariables false
set_option linter.unusedSimpArgs false
set_option maxHeartbeats 8000000 in
set_option maxRecDepth 100000 in
theorem block_Add_nil.calls (s1 s2 : ByteArray) (w : World) : Calls Try.prog 45 #[.pointer none,.string s1,.string s2] w fun e w'=>e = .returned (.bool false)∧w' = w:=by
 have hu82 := Try.underlying82
 go_enter Try.func45, Try.ntmps45
 go_wp2
 go_ret
 exact ⟨rfl, rfl⟩
set_option maxHeartbeats 8000000 in
set_option maxRecDepth 100000 in
theorem block_Size_nil.calls (w : World) : Calls Try.prog 48 #[.pointer none] w fun e w'=>e = .returned (.int .i64 0)∧w' = w:=by
 have hu82 := Try.underlying82
 go_enter Try.func48, Try.ntmps48
 go_wp2
 go_ret
 exact ⟨rfl, rfl⟩
set_option maxHeartbeats 8000000 in
set_option maxRecDepth 100000 in
theorem block_Bytes_nil.calls (w : World) : Calls Try.prog 43 #[.pointer none] w fun e w'=>e = .returned (.slice none 0 0)∧w' = w:=by
 have hu82 := Try.underlying82
 go_enter Try.func43, Try.ntmps43
 go_wp2
 go_ret
 exact ⟨rfl, rfl⟩
set_option maxHeartbeats 8000000 in
set_option maxRecDepth 100000 in
theorem block_Size_.calls (w : World) (g : Nat) (rows : Int) (last : ByteArray) (Ab : Option Addr) (lb cb : Nat) (Ap : Option Addr) (lp cp : Nat)
  (hg : w.heap[g]? = some (.cells #[.int .i64 rows, .string last, .slice Ab lb cb, .slice Ap lp cp] 120 (0, 0))) :
  Calls Try.prog 48 #[.pointer (some ⟨g,0,none⟩)] w fun e w'=>e = .returned (.int .i64 (wrap64 (wrap64 ((lb : Int) + lp) + 4)))∧∃ n,w' = w.drewN n:=by
 have hu82 := Try.underlying82
 have hu111 := Try.underlying120
 have h2 : w.cell? ⟨g, 2, none⟩ = some (.slice Ab lb cb) := (blk_cell hg 2).trans rfl
 have h3 : w.cell? ⟨g, 3, none⟩ = some (.slice Ap lp cp) := (blk_cell hg 3).trans rfl
 clear hg
 go_enter Try.func48, Try.ntmps48
 go_wp2
 go_quiet (fail)
 go_wp2
 go_ret
 exact ⟨rfl, _, rfl⟩
theorem block_Size.calls (w0 w : World) (g : Nat) (rows : Int) (last : ByteArray) (b p : List Int) (hI : BldI w0 w g rows last b p) (hb : b.length < 1000000000000) (hp : p.length < 1000000000000) :
  Calls Try.prog 48 #[.pointer (some ⟨g,0,none⟩)] w fun e w'=>e = .returned (.int .i64 ((b.length : Int) + p.length + 4))∧BldI w0 w' g rows last b p∧Below w.heap.size w w':=by
 obtain ⟨hge, hB, vb, vp, hC, hO, hP, hn⟩ := id hI
 obtain ⟨Ab, cb, e1⟩ := Kd.R_slice hO
 obtain ⟨Ap, cp, e2⟩ := Kd.R_slice hP
 subst e1; subst e2
 refine (block_Size_.calls w g rows last Ab b.length cb Ap p.length cp hC).mono ?_
 rintro e w' ⟨rfl, n, rfl⟩
 refine ⟨?_, hI.below (pw_below_drewN (Below.refl _ _) n), pw_below_drewN (Below.refl _ _) n⟩
 congr 2
 unfold wrap64
 omega
set_option maxHeartbeats 8000000 in
set_option maxRecDepth 100000 in
theorem bytes_Clone.calls (A : Option Addr) (c : Nat) (l : List Int) (w : World) (hr : Kd.C (Kd.int .u8) w A l.length l) (hc : l.length ≤ c) (hl : l.length ≤ 140737488355328) :
  Calls Try.prog 69 #[.slice A l.length c] w fun e w'=>∃ v,e = .returned v∧Kd.R (Kd.int .u8) 5 w' w.heap.size (fun _=>True) v l∧Below w.heap.size w w':=by
 have HR := Aside0.mk hr
 have HL := Aside0.mk hl
 clear hr hl
 cases A with
 | none =>
  have hl0 : l = [] := by
   obtain ⟨h1, _⟩ := HR.out
   cases l with
   | nil => rfl
   | cons x t => obtain ⟨_, h, _⟩ := Kd.at_int HR.out 0 (by omega) (by simp only [List.length_cons]; omega); cases h
  subst hl0
  have he : ∀ W,(binOp .eql 43 (.slice none 0 c) (.slice none 0 0)).run Try.prog W = .ok (.bool true) W:=fun _=>by rfl
  go_enter Try.func69, Try.ntmps69
  go_wp2
  go_ret
  exact ⟨_, rfl, Kd.R_nil _ _ _ _ _, Below.refl _ _⟩
 | some ad =>
  have he : ∀ W,(binOp .eql 43 (.slice (some ad) l.length c) (.slice none 0 0)).run Try.prog W = .ok (.bool false) W:=fun _=>by rfl
  go_enter Try.func69, Try.ntmps69
  go_wp2_with (first | ((with_reducible refine gate_builtin (b:=.append) (xs:=#[.tmp 5,.tmp 6]) rfl ?_);at_builtin;refine Kd.R_append_rows (Kd.int .u8) (w0:=w) w.heap.size rfl (.tmp 5) (.tmp 6) 43 5 (.int .u8 0) 1 rfl Try.underlying43 info5 rfl (by decide) (by omega) (.slice (some ⟨w.heap.size,0,none⟩) 0 0) [] l (some ad) l.length c (fun _=>True) (fun _=>False) rfl rfl ?aO ?aR (fun _ _ h=>h) (fun _ h=>h.elim) ?aF ?aB ?aS ?aL ?_;(case aO=>exact Kd.R_of_own (enc:=Value.int .u8) (h1:=fun _=>rfl) (xs:=[]) (World.ownsRow_made w #[] 0 (Nat.le_refl _) (by simp [maxLen]) rfl) (fun _ _=>trivial));(case aR=>exact Kd.C_alloc HR.out _);(case aF=>exact (fun _ _=>trivial));(case aB=>exact below_alloc (Below.refl _ _) _);(case aS=>simp);(case aL=>have:=HL.out;simp only [List.length_nil];omega);intro v1 w1 ho1 hb1 hg1 hat1;have HO1:=Aside0.mk ho1;have HB1:=Aside0.mk hb1;clear ho1 hb1 hg1 hat1))
  go_ret
  exact ⟨_, rfl, HO1.out, HB1.out⟩
end Go.Proofs.Ytenmljkddhonmaa.MTbl

namespace Go.Proofs.Ytenmljkddhonmaa.MTbl
open Go.RowKit Go.Proofs.YtenmljkddhonmaaW.PrintWords Go.Proofs.YtenmljkddhonmaaW.PrintLast Go.Proofs.YtenmljkddhonmaaW.PrintMore
set_option linter.unusedVariables false
set_option linter.unusedSimpArgs false
set_option maxHeartbeats 8000000 in
set_option maxRecDepth 100000 in
theorem block_Bytes.calls (k : Nat) (w0 w : World) (g : Nat) (rows : Int) (last : ByteArray) (b p f32 : List Int) (hI : BldI w0 w g rows last b p) (hf : varint_Put32.f k ((p.length : Int) / 4 % 4294967296) = some f32) (hb0 : b.length < 100000000000) (hp0 : p.length < 100000000000) (hf0 : f32.length < 100000) :
  Calls Try.prog 43 #[.pointer (some ⟨g,0,none⟩)] w fun e w'=>∃ v,e = .returned v∧Kd.R (Kd.int .u8) 5 w' w.heap.size (fun _=>True) v (b ++ p ++ f32)∧BldI w0 w' g rows last b p∧Below w.heap.size w w':=by
 have HI := Aside0.mk hI
 have HF := Aside0.mk hf
 obtain ⟨hge, hB, vb, vp, hC, hO, hP, hn⟩ := id hI
 obtain ⟨Ab, cb, e1⟩ := Kd.R_slice hO
 obtain ⟨Ap, cp, e2⟩ := Kd.R_slice hP
 subst e1; subst e2
 have h2 : w.cell? ⟨g, 2, none⟩ = some (.slice Ab b.length cb) := (blk_cell hC 2).trans rfl
 have h3 : w.cell? ⟨g, 3, none⟩ = some (.slice Ap p.length cp) := (blk_cell hC 3).trans rfl
 have HC := Aside0.mk hC
 have HOb := Aside0.mk hO
 have HOp := Aside0.mk hP
 clear hB hC hO hP hn hI hf
 have hu82 := Try.underlying82
 go_enter Try.func43, Try.ntmps43
 go_wp2_with (fail)
 go_region_law (first
  | (go_simp;go_at_call 69;(with_reducible refine (bytes_Clone.calls Ab cb b _ (Kd.C_drew (Kd.R_reads' HOb.out).2.2) (Kd.R_reads' HOb.out).2.1 (by omega)).mono ?_);rintro e w' ⟨v0,rfl,ho,hb⟩;obtain ⟨A2,c2,e2⟩:=Kd.R_slice ho;subst e2;have HB2:=Aside0.mk (below_step (below_drew1 (Below.refl w.heap.size w)) hb);have HO2:=Aside0.mk ho;have HP2:=Aside0.mk (Kd.C_below (Kd.C_drew (Kd.R_reads' HOp.out).2.2) hb);have HC2:=Aside0.mk ((hb.block g (blk_lt HC.out)).trans HC.out);have h32 : w'.cell? ⟨g,3,none⟩ = some (.slice Ap p.length cp):=(blk_cell HC2.out 3).trans rfl;clear ho hb)
  | (refine Kd.R_append_rows_step (Kd.int .u8) (w0:=w) w.heap.size (by rfl) (.tmp 10) (.tmp 14) 43 5 (.int .u8 0) 1 rfl Try.underlying43 info5 rfl (by decide) (by omega) (.slice A2 b.length c2) b p _ _ _ (fun _=>True) (fun _=>False) (by rfl) (by rfl) ?aO ?aR (fun _ _ h=>h) (fun _ h=>h.elim) ?aF ?aB ?aS ?aL ?_;(case aO=>exact HO2.out);(case aR=>exact HP2.out);(case aF=>exact fun i hi=>trivial);(case aB=>exact HB2.out);(case aS=>exact below_size HB2.out);(case aL=>omega);intro v1 w1 ho1 hb1 hg1 hat;obtain ⟨A3,c3,e3⟩:=Kd.R_slice ho1;obtain ⟨nl,hnl⟩ : ∃ nl,Aside0 (nl = (b ++ p).length):=⟨_,⟨rfl⟩⟩;rw [← hnl.out] at e3;subst e3;have HO3:=Aside0.mk ho1;have HB3:=Aside0.mk hb1;have HC3:=Aside0.mk ((hb1.block g (blk_lt HC.out)).trans HC.out);have h33 : w1.cell? ⟨g,3,none⟩ = some (.slice Ap p.length cp):=(blk_cell HC3.out 3).trans rfl;clear ho1 hb1 hg1 hat))
 all_goals
  have hwd : IntKind.i64.wrap (((p.length : Int)).tdiv 4) = (((p.length : Int)).tdiv 4):=(i64_w _).trans (by rw [Int.tdiv_eq_ediv_of_nonneg (by omega)];unfold wrap64;omega)
  go_wp2_with (fail)
  refine (varint_Put32.calls k _ f32 _ HF.out).mono ?_
  rintro e w2 ⟨v2, rfl, ho, hb⟩
  obtain ⟨A4, c4, e4⟩ := Kd.R_slice ho
  subst e4
  have HB4 := Aside0.mk (below_step HB3.out hb)
  have HO4 := Aside0.mk (Kd.R_below HO3.out hb)
  have HP4 := Aside0.mk (Kd.R_reads' ho).2.2
  clear ho hb h2 h3 h32 h33 hwd
  go_wp2_with (first | ((with_reducible refine gate_builtin (b:=.append) (xs:=#[.tmp 16,.tmp 24]) rfl ?_);at_builtin;refine Kd.R_append_rows (Kd.int .u8) (w0:=w) w.heap.size rfl (.tmp 16) (.tmp 24) 43 5 (.int .u8 0) 1 rfl Try.underlying43 info5 rfl (by decide) (by omega) (.slice A3 nl c3) (b ++ p) f32 A4 f32.length c4 (fun _=>True) (fun _=>False) rfl rfl ?aO ?aR (fun _ _ h=>h) (fun _ h=>h.elim) ?aF ?aB ?aS ?aL ?_;(case aO=>exact HO4.out);(case aR=>exact HP4.out);(case aF=>exact (fun _ _=>trivial));(case aB=>exact HB4.out);(case aS=>exact below_size HB4.out);(case aL=>rw [List.length_append];omega);intro v5 w5 ho5 hb5 hg5 hat5;have HO5:=Aside0.mk ho5;have HB5:=Aside0.mk hb5;clear ho5 hb5 hg5 hat5))
  go_ret
  exact ⟨_, rfl, HO5.out, HI.out.below HB5.out, HB5.out⟩
end Go.Proofs.Ytenmljkddhonmaa.MTbl

/- Numbers as bytes: what varint's Put comes to. -/
namespace Go.Proofs.Ytenmljkddhonmaa.QTbl
open Go.RowKit Go.Proofs.Ytenmljkddhonmaa.MTbl Go.Proofs.Ytenmljkddhonmaa.QTbl Go.Proofs.YtenmljkddhonmaaW.PrintWords Go.Proofs.YtenmljkddhonmaaW.PrintLast Go.Proofs.YtenmljkddhonmaaW.PrintMore
set_option linter.unusedVariables false
set_option linter.unusedSimpArgs false
/-- A number as bytes. -/
def put (n : Nat) : List Int := if h : n < 128 then [(n : Int)] else ((n % 128 + 128 : Nat) : Int) :: put (n / 128)
termination_by n
decreasing_by omega

theorem put_small {n : Nat} (h : n < 128) : put n = [(n : Int)] := by rw [put, dif_pos h]
theorem put_big {n : Nat} (h : ¬ n < 128) : put n = ((n % 128 + 128 : Nat) : Int) :: put (n / 128):=by rw [put,dif_neg h]

theorem put_length (j : Nat) : ∀ n : Nat, n < 128 ^ (j + 1) → (put n).length ≤ j + 1 := by
 induction j with
 | zero => intro n h; rw [put_small (by simpa using h)]; simp
 | succ j ih =>
  intro n h
  by_cases h1 : n < 128
  ·rw [put_small h1]; simp
  ·rw [put_big h1]
   have := ih (n / 128) (by rw [Nat.div_lt_iff_lt_mul (by omega)]; rw [Nat.pow_succ] at h; exact h)
   simp; omega

theorem put_length10 {n : Nat} (h : n < 18446744073709551616) : (put n).length ≤ 10 :=
 put_length 9 n (Nat.lt_trans h (by decide))

theorem or128 : ∀ x : Fin 256,Go.bits .or .u8 (x.val : Int) 128 = ((x.val % 128 + 128 : Nat) : Int):=by decide +kernel

theorem or128' {x : Int} (h0 : 0 ≤ x) (h1 : x < 256) : Go.bits .or .u8 x 128 = x % 128 + 128 := by
 obtain ⟨n, rfl⟩ := Int.eq_ofNat_of_zero_le h0
 have := or128 ⟨n, by omega⟩
 simp only at this
 rw [this]; omega

theorem Put_l0 (j : Nat) : ∀ (n : Nat) (acc : List Int),n < 128 ^ (j + 1) → acc.length + j < 140737488355328 → Ev (fun k=>varint_Put.l0 k (n : Int) acc) (acc ++ put n):=by
 induction j with
 | zero =>
  intro n acc h hl
  have h' : n < 128 := by simpa using h
  refine Ev.succ ?_
  simp only [varint_Put.l0]
  refine Ev.ite_neg (by omega) (Ev.ite_pos (by omega) ?_)
  rw [put_small h', show (n : Int) % 256 = n by omega]
  exact Ev.now _
 | succ j ih =>
  intro n acc h hl
  refine Ev.succ ?_
  simp only [varint_Put.l0]
  by_cases h1 : n < 128
  ·refine Ev.ite_neg (by omega) (Ev.ite_pos (by omega) ?_)
   rw [put_small h1, show (n : Int) % 256 = n by omega]
   exact Ev.now _
  ·refine Ev.ite_pos (by omega) (Ev.ite_pos (by omega) ?_)
   have:=ih (n / 128) (acc ++ [((n % 128 + 128 : Nat) : Int)]) (by rw [Nat.div_lt_iff_lt_mul (by omega)];rw [Nat.pow_succ] at h;exact h) (by simp;omega)
   rw [put_big h1]
   rw [List.append_assoc, List.singleton_append] at this
   refine Ev.congr (fun k => ?_) this
   rw [or128' (by omega) (by omega), show ((n : Int) % 256 % 128 + 128) = ((n % 128 + 128 : Nat) : Int) by omega]
   rfl

theorem Put_ev {n : Nat} (h : n < 18446744073709551616) : Ev (fun k => varint_Put.f k (n : Int)) (put n) := by
 have := Put_l0 9 n [] (Nat.lt_trans h (by decide)) (by simp)
 exact this
end Go.Proofs.Ytenmljkddhonmaa.QTbl

/- Bytes. -/
namespace Go.Proofs.Ytenmljkddhonmaa.QTbl
open Go.RowKit Go.Proofs.Ytenmljkddhonmaa.MTbl Go.Proofs.Ytenmljkddhonmaa.QTbl Go.Proofs.YtenmljkddhonmaaW.PrintWords Go.Proofs.YtenmljkddhonmaaW.PrintLast Go.Proofs.YtenmljkddhonmaaW.PrintMore
set_option linter.unusedVariables false
set_option linter.unusedSimpArgs false

/-- Bytes. -/
def Bytes (l : List Int) : Prop := ∀ c ∈ l, 0 ≤ c ∧ c < 256
theorem Bytes.getD {l : List Int} (h : Bytes l) (i : Nat) : 0 ≤ l.getD i 0 ∧ l.getD i 0 < 256 := by
 rw [List.getD_eq_getElem?_getD]
 by_cases hi : i < l.length
 ·rw [List.getElem?_eq_getElem hi]; exact h _ (List.getElem_mem hi)
 ·rw [List.getElem?_eq_none (by omega)]; decide
theorem Bytes.take {l : List Int} (h : Bytes l) (n : Nat) : Bytes (l.take n):=fun c hc=>h c (List.mem_of_mem_take hc)
theorem Bytes.drop {l : List Int} (h : Bytes l) (n : Nat) : Bytes (l.drop n):=fun c hc=>h c (List.mem_of_mem_drop hc)
theorem Bytes.append {l m : List Int} (h : Bytes l) (k : Bytes m) : Bytes (l ++ m) := fun c hc => by
 rcases List.mem_append.1 hc with hc | hc
 ·exact h c hc
 ·exact k c hc
end Go.Proofs.Ytenmljkddhonmaa.QTbl

/- Plain words on bits and places. -/
namespace Go.Proofs.Ytenmljkddhonmaa.QTbl
open Go.RowKit Go.Proofs.Ytenmljkddhonmaa.MTbl Go.Proofs.Ytenmljkddhonmaa.QTbl Go.Proofs.YtenmljkddhonmaaW.PrintWords Go.Proofs.YtenmljkddhonmaaW.PrintLast Go.Proofs.YtenmljkddhonmaaW.PrintMore
set_option linter.unusedVariables false
set_option linter.unusedSimpArgs false
theorem take_succ_getD (l : List Int) (i : Nat) (h : i < l.length) : l.take (i + 1) = l.take i ++ [l.getD i 0] := by
 rw [List.take_succ_eq_append_getElem h, List.getD_eq_getElem?_getD, List.getElem?_eq_getElem h]; rfl

theorem u64wraps (n : Int) (h0 : 0 ≤ n) (h1 : n < 2 ^ 64) : IntKind.u64.wrap n = n := u64_id h0 (by simpa using h1)

theorem or_low {a b i : Nat} (ha : a < 2 ^ i) (hb : b % 2 ^ i = 0) (ha64 : a < 2 ^ 64) (hb64 : b < 2 ^ 64) : Go.bits .or .u64 (a : Int) (b : Int) = ((a + b : Nat) : Int):=by
 have h := (bits_nat .u64 64 (by decide) u64wraps a b ha64 hb64).2
 rw [h]
 have hq : b = 2 ^ i * (b / 2 ^ i) := by
  have := Nat.div_add_mod b (2 ^ i)
  omega
 rw [Nat.or_comm, hq, ← Nat.two_pow_add_eq_or_of_lt ha (b / 2 ^ i), Nat.add_comm]
end Go.Proofs.Ytenmljkddhonmaa.QTbl

/- Numbers in four bytes: what varint's fixed and read come to. -/
namespace Go.Proofs.Ytenmljkddhonmaa.QTbl
open Go.RowKit Go.Proofs.Ytenmljkddhonmaa.MTbl Go.Proofs.Ytenmljkddhonmaa.QTbl Go.Proofs.YtenmljkddhonmaaW.PrintWords Go.Proofs.YtenmljkddhonmaaW.PrintLast Go.Proofs.YtenmljkddhonmaaW.PrintMore
set_option linter.unusedVariables false
set_option linter.unusedSimpArgs false
/-- A number in so many bytes, the lowest first. -/
def fix (n : Nat) : Nat → List Int
 | 0 => []
 | k + 1 => ((n % 256 : Nat) : Int) :: fix (n / 256) k
theorem fix_length : ∀ (k n : Nat), (fix n k).length = k
 | 0, _ => rfl
 | k + 1, n => by simp [fix, fix_length k]
theorem fix_bytes : ∀ (k n : Nat), Bytes (fix n k)
 | 0, _ => by simp [fix, Bytes]
 | k + 1, n => by
  intro c hc
  simp only [fix, List.mem_cons] at hc
  rcases hc with rfl | hc
  ·omega
  ·exact fix_bytes k _ c hc
theorem pow256 (i : Nat) : (2 : Nat) ^ (8 * i) = 256 ^ i := by rw [Nat.pow_mul]

theorem fixed_l0 (n m : Nat) (hm : m ≤ 8) (d : Nat) : ∀ (i : Nat) (acc : List Int),m - i = d → i ≤ m → acc.length + d < 1000 → Ev (fun k=>varint_fixed.l0 k (n : Int) acc (m : Int) (i : Int)) (acc ++ fix (n / 256 ^ i) (m - i)):=by
 induction d with
 | zero =>
  intro i acc hd hi _
  refine Ev.succ ?_
  simp only [varint_fixed.l0]
  refine Ev.ite_neg (by omega) ?_
  rw [show m - i = 0 by omega]
  simp only [fix, List.append_nil]
  exact Ev.now _
 | succ d ih =>
  intro i acc hd hi ha
  refine Ev.succ ?_
  simp only [varint_fixed.l0]
  rw [wrap64_id (n := 8 * (i : Int)) (by omega) (by omega), wrap64_id (n := (i : Int) + 1) (by omega) (by omega)]
  refine Ev.ite_pos (by omega) (Ev.ite_pos (by omega) (Ev.ite_pos (by omega) ?_))
  have e : shr .u64 (n : Int) (8 * (i : Int)) % 256 = ((n / 256 ^ i % 256 : Nat) : Int) := by
   unfold shr
   rw [show min (8 * (i : Int)).toNat IntKind.u64.bits = 8 * i by
    rw [show (8 * (i : Int)).toNat = 8 * i by omega]; exact Nat.min_eq_left (by show 8 * i ≤ 64; omega)]
   have : ((2 : Int) ^ (8 * i)) = ((256 ^ i : Nat) : Int) := by rw [← pow256]; simp
   rw [this]; simp
  rw [e]
  have := ih (i + 1) (acc ++ [((n / 256 ^ i % 256 : Nat) : Int)]) (by omega) (by omega) (by simp; omega)
  rw [List.append_assoc, List.singleton_append] at this
  rw [show m - i = (m - (i + 1)) + 1 by omega]
  simp only [fix]
  rw [Nat.div_div_eq_div_mul, ← Nat.pow_succ]
  exact this

theorem fixed_ev (n m : Nat) (hm : m ≤ 8) : Ev (fun k => varint_fixed.f k (n : Int) (m : Int)) (fix n m) := by
 have := fixed_l0 n m hm m 0 [] rfl (by omega) (by simp; omega)
 simp only [Nat.pow_zero, Nat.div_one, Nat.sub_zero, List.nil_append] at this
 exact this
theorem Put32_ev {n : Nat} (h : n < 4294967296) : Ev (fun k => varint_Put32.f k (n : Int)) (fix n 4) := by
 unfold varint_Put32.f
 rw [u64_id (by omega) (by omega)]
 exact Ev.bind (fixed_ev n 4 (by omega)) (Ev.now _)
/-- The number that bytes make. -/
def val256 : List Int → Nat
 | [] => 0
 | c :: t => c.toNat + 256 * val256 t
theorem val256_lt : ∀ l : List Int, Bytes l → val256 l < 256 ^ l.length
 | [], _ => by simp [val256]
 | c :: t, h => by
  have h1 := val256_lt t (fun x hx => h x (List.mem_cons_of_mem _ hx))
  have hc := h c (List.mem_cons_self ..)
  simp only [val256, List.length_cons, Nat.pow_succ]
  omega
theorem val256_append : ∀ (l m : List Int), val256 (l ++ m) = val256 l + 256 ^ l.length * val256 m
 | [], m => by simp [val256]
 | c :: t, m => by
  simp only [val256, List.cons_append, List.length_cons, Nat.pow_succ, val256_append t m]
  rw [Nat.mul_add, ← Nat.mul_assoc, Nat.mul_comm 256 (256 ^ t.length)]
  omega
theorem val256_take_succ (l : List Int) (i : Nat) (h : i < l.length) : val256 (l.take (i + 1)) = val256 (l.take i) + 256 ^ i * (l.getD i 0).toNat:=by
 rw [take_succ_getD l i h, val256_append, List.length_take, Nat.min_eq_left (by omega)]; simp [val256]
theorem val256_fix : ∀ (k n : Nat), val256 (fix n k) = n % 256 ^ k
 | 0, n => by simp [fix, val256, Nat.mod_one]
 | k + 1, n => by
  simp only [fix, val256]
  rw [val256_fix k, Nat.pow_succ, Nat.mul_comm (256 ^ k), Nat.mod_mul]
  omega

theorem or_step8 (l : List Int) (i : Nat) (hi : i < l.length) (hl : l.length ≤ 8) (hb : Bytes l) :
  Go.bits .or .u64 (val256 (l.take i) : Int) (shl .u64 (IntKind.u64.wrap (l.getD i 0)) (wrap64 (8 * (i : Int)))) = (val256 (l.take (i + 1)) : Int):=by
 have hg := hb.getD i
 have hc' : l.getD i 0 = ((l.getD i 0).toNat : Int) := by omega
 rw [wrap64_id (by omega) (by omega), u64_id (by omega) (by omega)]
 unfold shl
 have e7 : min (8 * (i : Int)).toNat IntKind.u64.bits = 8 * i := by
  rw [show (8 * (i : Int)).toNat = 8 * i by omega]
  exact Nat.min_eq_left (by show 8 * i ≤ 64; omega)
 generalize hm : (l.getD i 0).toNat = m at *
 have hlt : m * 256 ^ i < 2 ^ 64 := by
  have hp : 256 ^ i ≤ 256 ^ 7 := Nat.pow_le_pow_right (by decide) (by omega)
  have hm' : m ≤ 255 := by omega
  exact Nat.lt_of_le_of_lt (Nat.mul_le_mul hm' hp) (by decide)
 have e2 : (m : Int) * 2 ^ (8 * i) = ((m * 256 ^ i : Nat) : Int) := by
  rw [← pow256]; simp
 have hv := val256_lt (l.take i) (hb.take i)
 rw [List.length_take, Nat.min_eq_left (by omega)] at hv
 have hv64 : val256 (l.take i) < 2 ^ 64:=Nat.lt_of_lt_of_le hv (Nat.le_trans (Nat.pow_le_pow_right (by decide) (show i ≤ 7 by omega)) (by decide))
 have hw : IntKind.u64.wrap ((m * 256 ^ i : Nat) : Int) = ((m * 256 ^ i : Nat) : Int):=u64wraps _ (by omega) (by exact_mod_cast hlt)
 rw [e7,hc',e2,hw,or_low (i:=8 * i) (by rw [pow256];exact hv) (by rw [pow256];exact Nat.mul_mod_left _ _) hv64 hlt,val256_take_succ l i hi,hm]
 simp [Nat.mul_comm]

theorem read_l0 (l : List Int) (hl : l.length ≤ 8) (hb : Bytes l) (d : Nat) : ∀ (i : Nat),l.length - i = d → i ≤ l.length → Ev (fun k=>varint_read.l0 k (val256 (l.take i) : Int) l (l.length : Int) (i : Int)) (val256 l : Int):=by
 induction d with
 | zero =>
  intro i hd hi
  refine Ev.succ ?_
  simp only [varint_read.l0]
  rw [List.take_of_length_le (by omega)]
  exact Ev.ite_neg (by omega) (Ev.now _)
 | succ d ih =>
  intro i hd hi
  refine Ev.succ ?_
  simp only [varint_read.l0]
  refine Ev.ite_pos (by omega) (Ev.ite_pos (by omega) (Ev.ite_pos (by omega) (Ev.ite_pos (by rw [wrap64_id (by omega) (by omega)];omega) ?_)))
  rw [rd_nat, wrap64_id (n := (i : Int) + 1) (by omega) (by omega), or_step8 l i (by omega) hl hb]
  exact ih (i + 1) (by omega) (by omega)

theorem read_ev {l : List Int} {m : Nat} (hm : m ≤ 8) (hb : Bytes l) (hl : m ≤ l.length) : Ev (fun k=>varint_read.f k l (m : Int)) (val256 (l.take m) : Int):=by
 have hlen : (l.take m).length = m := by rw [List.length_take]; omega
 have h := read_l0 (l.take m) (by omega) (hb.take m) _ 0 rfl (by omega)
 unfold varint_read.f
 refine Ev.ite_neg (by omega) (Ev.ite_pos (by omega) (Ev.ite_pos (by omega) ?_))
 (try simp only [Option.bind_some])
 rw [Int.toNat_natCast]
 exact h
theorem Get32_ev {l : List Int} (hb : Bytes l) (hl : 4 ≤ l.length) : Ev (fun k=>varint_Get32.f k l) (val256 (l.take 4) : Int):=by
 unfold varint_Get32.f
 refine Ev.bind (read_ev (m := 4) (by omega) hb hl) (Ev.same ?_)
 have h := val256_lt (l.take 4) (hb.take 4)
 rw [List.length_take, Nat.min_eq_left hl] at h
 have e : (256 : Nat) ^ 4 = 4294967296 := by decide
 rw [show ((val256 (l.take 4) : Int)) % 4294967296 = (val256 (l.take 4) : Int) by omega]
end Go.Proofs.Ytenmljkddhonmaa.QTbl
