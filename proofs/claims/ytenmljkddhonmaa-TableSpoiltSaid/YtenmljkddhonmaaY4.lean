import Derived.Test.YtenmljkddhonmaaY1
-- Written by a program of this session for this claim (out of the translation's print); Lean checks it.
namespace Go.Proofs.Ytenmljkddhonmaa.MTbl
open Go.RowKit Go.Proofs.YtenmljkddhonmaaW.PrintWords Go.Proofs.YtenmljkddhonmaaW.PrintLast Go.Proofs.YtenmljkddhonmaaW.PrintMore
attribute [local go_sem] max2_int min2_int max_two min_two max_three min_three max_four min_four   -- for this text's walks alone
set_option linter.unusedVariables false
set_option linter.unusedSimpArgs false

/-- A state of type 120 at block g of W; what its slices lead to came in by w0. -/
def IsS120 (w0 W : World) (g : Nat) (f0 : Int) (f1 : ByteArray) (f2 : List Int) (f3 : List Int) : Prop:=∃ A2 c2,∃ A3 c3,W.heap[g]? = some (.cells #[.int .i64 f0,.string f1,.slice A2 f2.length c2,.slice A3 f3.length c3] 120 (0,0))∧w0.heap.size ≤ g∧Kd.C (Kd.int .u8) w0 A2 f2.length f2∧Kd.C (Kd.int .u8) w0 A3 f3.length f3
theorem IsS120.grown {w0 W : World} {g : Nat} {f0 : Int} {f1 : ByteArray} {f2 : List Int} {f3 : List Int} {W1 : World} {row : Option Nat} (h : IsS120 w0 W g f0 f1 f2 f3) (hw : W.grownBy W1 row) (hne : some g ≠ row) : IsS120 w0 W1 g f0 f1 f2 f3:=by
 obtain ⟨A2, c2, A3, c3, hb, hg, hr2, hr3⟩ := h
 exact ⟨A2, c2, A3, c3, blk_grown hb hw hne, hg, hr2, hr3⟩
theorem IsS120.kept {w0 W : World} {g : Nat} {f0 : Int} {f1 : ByteArray} {f2 : List Int} {f3 : List Int} {W1 : World} {S : Nat → Prop} (h : IsS120 w0 W g f0 f1 f2 f3) (hk : Kept W W1 S) (hne : ¬ S g) : IsS120 w0 W1 g f0 f1 f2 f3:=by
 obtain ⟨A2, c2, A3, c3, hb, hg, hr2, hr3⟩ := h
 exact ⟨A2, c2, A3, c3, blk_kept hb hk hne, hg, hr2, hr3⟩
theorem IsS120.below {w0 W : World} {g : Nat} {f0 : Int} {f1 : ByteArray} {f2 : List Int} {f3 : List Int} {W1 : World} (h : IsS120 w0 W g f0 f1 f2 f3) (hw : Below W.heap.size W W1) : IsS120 w0 W1 g f0 f1 f2 f3:=h.grown (grown_of_below hw none) (by simp)
theorem IsS120.alloc {w0 W : World} {g : Nat} {f0 : Int} {f1 : ByteArray} {f2 : List Int} {f3 : List Int} (h : IsS120 w0 W g f0 f1 f2 f3) (o : Obj) : IsS120 w0 (W.alloc o) g f0 f1 f2 f3:=h.below (below_alloc (Below.refl _ _) o)
theorem IsS120.drewN {w0 W : World} {g : Nat} {f0 : Int} {f1 : ByteArray} {f2 : List Int} {f3 : List Int} (h : IsS120 w0 W g f0 f1 f2 f3) (m : Nat) : IsS120 w0 (W.drewN m) g f0 f1 f2 f3:=h
theorem IsS120.drew {w0 W : World} {g : Nat} {f0 : Int} {f1 : ByteArray} {f2 : List Int} {f3 : List Int} (h : IsS120 w0 W g f0 f1 f2 f3) : IsS120 w0 W.drew g f0 f1 f2 f3:=h
theorem IsS120.at_ {w0 W : World} {g : Nat} {f0 : Int} {f1 : ByteArray} {f2 : List Int} {f3 : List Int} {w' : World} {m : Nat} (hq : W.drewN m = w') (h : IsS120 w0 W g f0 f1 f2 f3) : IsS120 w0 w' g f0 f1 f2 f3:=by subst hq;exact IsS120.drewN h m
theorem IsS120.apart {w0 W : World} {g : Nat} {f0 : Int} {f1 : ByteArray} {f2 : List Int} {f3 : List Int} {α : Type} {d : Kd α} {e : Nat} {base : Nat} {ok : Nat → Prop} {v : Value} {xs : List α} (h : IsS120 w0 W g f0 f1 f2 f3) (ho : d.R e W base ok v xs) (ht : ∀ q,q ∈ e :: d.E → q ≠ 120) : d.R e W base (fun k=>ok k∧k ≠ g) v xs:=by
 obtain ⟨A2, c2, A3, c3, hb, hg, hr2, hr3⟩ := h
 exact Kd.R_types ho hb ht
theorem IsS120.own_ne {w0 W : World} {g : Nat} {f0 : Int} {f1 : ByteArray} {f2 : List Int} {f3 : List Int} {α : Type} {d : Kd α} {e : Nat} {base : Nat} {ok : Nat → Prop} {v : Value} {xs : List α} (h : IsS120 w0 W g f0 f1 f2 f3) (ho : d.R e W base ok v xs) (ht : e ≠ 120) : some g ≠ v.ownBlock:=by
 obtain ⟨A2, c2, A3, c3, hb, hg, hr2, hr3⟩ := h
 exact Kd.R_ne ho hb ht
theorem IsS120.lt {w0 W : World} {g : Nat} {f0 : Int} {f1 : ByteArray} {f2 : List Int} {f3 : List Int} (h : IsS120 w0 W g f0 f1 f2 f3) : g < W.heap.size:=by
 obtain ⟨A2, c2, A3, c3, hb, hg, hr2, hr3⟩ := h
 exact blk_lt hb
theorem IsS120.far {w0 W : World} {g : Nat} {f0 : Int} {f1 : ByteArray} {f2 : List Int} {f3 : List Int} {p : Addr} (h : IsS120 w0 W g f0 f1 f2 f3) (hne : g ≠ p.block) (u : Value) : IsS120 w0 (W.setCell p u) g f0 f1 f2 f3:=by
 obtain ⟨A2, c2, A3, c3, hb, hg, hr2, hr3⟩ := h
 exact ⟨A2, c2, A3, c3, blk_far hb hne u, hg, hr2, hr3⟩
theorem IsS120.set_0 {w0 W : World} {g : Nat} {f0 : Int} {f1 : ByteArray} {f2 : List Int} {f3 : List Int} (h : IsS120 w0 W g f0 f1 f2 f3) (x : Int) : IsS120 w0 (W.setCell ⟨g,0,none⟩ (.int .i64 x)) g x f1 f2 f3:=by
 obtain ⟨A2, c2, A3, c3, hb, hg, hr2, hr3⟩ := h
 exact ⟨A2, c2, A3, c3, by simpa using blk_set hb 0 (.int .i64 x), hg, hr2, hr3⟩
theorem IsS120.set_1 {w0 W : World} {g : Nat} {f0 : Int} {f1 : ByteArray} {f2 : List Int} {f3 : List Int} (h : IsS120 w0 W g f0 f1 f2 f3) (x : ByteArray) : IsS120 w0 (W.setCell ⟨g,1,none⟩ (.string x)) g f0 x f2 f3:=by
 obtain ⟨A2, c2, A3, c3, hb, hg, hr2, hr3⟩ := h
 exact ⟨A2, c2, A3, c3, by simpa using blk_set hb 1 (.string x), hg, hr2, hr3⟩
theorem IsS120.new (w0 W : World) (A2 : Option Addr) (c2 : Nat) (A3 : Option Addr) (c3 : Nat) (f0 : Int) (f1 : ByteArray) (f2 : List Int) (f3 : List Int) (hB : Below w0.heap.size w0 W) (hr2 : Kd.C (Kd.int .u8) w0 A2 f2.length f2) (hr3 : Kd.C (Kd.int .u8) w0 A3 f3.length f3) : IsS120 w0 (W.alloc (.cells #[.int .i64 f0,.string f1,.slice A2 f2.length c2,.slice A3 f3.length c3] 120)) W.heap.size f0 f1 f2 f3:=⟨A2,c2,A3,c3,by simpa using heap_alloc_new W _,hB.size,hr2,hr3⟩

/-! ### block_New: function 41 -/
def block_New.f  : Option (Int × ByteArray × List Int × List Int):=some (0,(⟨#[]⟩ : ByteArray),([] : List Int),([] : List Int))
set_option maxHeartbeats 80000000 in
set_option maxRecDepth 100000 in
theorem block_New.calls  (r1 : Int) (r2 : ByteArray) (r3 : List Int) (r4 : List Int) (w0 w : World) (hB : Below w0.heap.size w0 w) (h : block_New.f  = some (r1,r2,r3,r4)) :
  Calls Try.prog 41 #[] w fun e w'=>∃ g_ : Nat,e = .returned (.pointer (some ⟨g_,0,none⟩))∧IsS120 w0 w' g_ r1 r2 r3 r4∧Below w0.heap.size w0 w'∧Below w.heap.size w w':=by
 have hu120 := Try.underlying120
 have HBW := Aside0.mk (Below.refl w.heap.size w)
 have HW0 := Aside0.mk hB.size
 have HB := Aside0.mk hB
 clear hB
 have H : (some (0, (⟨#[]⟩ : ByteArray), ([] : List Int), ([] : List Int))) = some (r1, r2, r3, r4) := h
 clear h
 simp only [Option.some.injEq, Prod.mk.injEq] at H
 obtain ⟨rfl, rfl, rfl, rfl⟩ := H
 go_enter Try.func41, Try.ntmps41
 go_wp2_with (first|((with_reducible refine gate_dst (N:=2) rfl ?_);refine box_event ?hg (N:=2) ?hd (cs:=#[.int .i64 0,.string (⟨#[]⟩ : ByteArray),.slice none 0 0,.slice none 0 0]) (t:=120) ?hr ?_;(case hd=>rfl);(case hg=>rfl);(case hr=>first|(go_simp;done)|(go_simp;rfl));intro gb133 hg w1 hbox hb;have n0_:=Aside0.mk (below_step HBW.out hb);have n1_:=Aside0.mk (below_step (by repeat (first|(with_reducible first|exact HB.out|apply below_alloc|apply pw_below_drewN|apply below_drew1)|exact HB.out)) hb);have n2_:=Aside0.mk (hbox);have n3_:=Aside0.mk ((by rw [hg];exact (below_size (by repeat (first|(with_reducible first|exact HBW.out|apply below_alloc|apply pw_below_drewN|apply below_drew1)|exact HBW.out))) : w.heap.size ≤ gb133));have n4_:=Aside0.mk ((Nat.le_trans HW0.out (by rw [hg];exact (below_size (by repeat (first|(with_reducible first|exact HBW.out|apply below_alloc|apply pw_below_drewN|apply below_drew1)|exact HBW.out))) : w.heap.size ≤ gb133) : w0.heap.size ≤ gb133));clear HBW;clear HB;have HBW:=n0_;have HB:=n1_;have BK133:=n2_;have GW133:=n3_;have GE133:=n4_;clear n0_ n1_ n2_ n3_ n4_;clear hb hbox hg))
 go_ret
 exact ⟨_,rfl,(show IsS120 w0 _ gb133 0 (⟨#[]⟩ : ByteArray) ([] : List Int) ([] : List Int) from ⟨none,0,none,0,by (with_reducible repeat (first|refine blk_drewN ?_ _|refine blk_drew ?_|refine blk_alloc ?_ _));exact BK133.out,GE133.out,(Kd.C_nil _ _),(Kd.C_nil _ _)⟩),by repeat (first|(with_reducible first|exact HB.out|apply below_alloc|apply pw_below_drewN|apply below_drew1|refine below_set ?_ GE133.out)|exact HB.out),by repeat (first|(with_reducible first|exact HBW.out|apply below_alloc|apply pw_below_drewN|apply below_drew1|refine below_set ?_ GW133.out)|exact HBW.out)⟩

/-! ### varint_Put: function 44 -/
def varint_Put.l0 : Nat → Int → List Int → Option (List Int)
 | 0, _, _ => none
 | k + 1,x0,x3=>if x0 > 127 then (if x3.length < 140737488355328 then (varint_Put.l0 k (x0 / 128) (x3 ++ [Go.bits .or .u8 ((x0) % 256) 128])) else (none)) else (if x3.length < 140737488355328 then (some (x3 ++ [(x0) % 256])) else (none))
def varint_Put.f (k : Nat) (a0 : Int) : Option (List Int) := varint_Put.l0 k a0 ([] : List Int)
theorem varint_Put.mono_l : ∀ k, (∀ y0 y1, LeO (varint_Put.l0 k y0 y1) (varint_Put.l0 (k + 1) y0 y1))
 | 0 => fun _ _ r h => by simp [varint_Put.l0] at h
 | k + 1 => by
  have ih0 := varint_Put.mono_l k
  ·intro y0 y1
   unfold varint_Put.l0
   repeat' first
  |(with_reducible exact ih0 _ _)
  |(with_reducible exact LeO.refl _)
  |(with_reducible exact LeO.none _)
  |(with_reducible refine LeO.ite ?_ ?_)
  |(with_reducible refine LeO.bind ?_ (fun _ => ?_))
  |exact ih0 _ _
  |exact LeO.none _
  |refine LeO.ite ?_ ?_
  |refine LeO.bind ?_ (fun _ => ?_)
theorem varint_Put.mono : ∀ a0 k, LeO (varint_Put.f k a0) (varint_Put.f (k + 1) a0) := by
 intro a0 k
 have ih0 := varint_Put.mono_l k
 unfold varint_Put.f
 repeat' first
  |(with_reducible exact ih0 _ _)
  |(with_reducible exact LeO.refl _)
  |(with_reducible exact LeO.none _)
  |(with_reducible refine LeO.ite ?_ ?_)
  |(with_reducible refine LeO.bind ?_ (fun _ => ?_))
  |exact ih0 _ _
  |exact LeO.none _
  |refine LeO.ite ?_ ?_
  |refine LeO.bind ?_ (fun _ => ?_)
set_option maxHeartbeats 80000000 in
set_option maxRecDepth 100000 in
theorem varint_Put.calls (k : Nat) (a0 : Int) (r : List Int) (w : World) (h : varint_Put.f k a0 = some r) :
  Calls Try.prog 44 #[.int .u64 a0] w fun e w'=>∃ v0_ : Value,e = .returned (v0_)∧Kd.R (Kd.int .u8) 5 w' w.heap.size (fun _=>True) v0_ r∧Below w.heap.size w w':=by
 have HB := Aside0.mk (Below.refl w.heap.size w)
 have H : (varint_Put.l0 k a0 ([] : List Int)) = some r := h
 clear h
 have H' := Aside0.mk H
 clear H
 go_enter Try.func44, Try.ntmps44
 go_wp2
 go_loopg [0,3] k (fun kq v0 v3 w'=>∃ (x0_1 : Int) (x3_1 : List Int),v0 = .int .u64 x0_1∧Aside0 (varint_Put.l0 kq x0_1 x3_1 = some r)∧Aside0 (kq ≤ k)∧Aside0 (Kd.R (Kd.int .u8) 5 w' w.heap.size (fun _=>True) v3 x3_1)∧Aside0 (Below w.heap.size w w'))
 case atStart=>exact ⟨(a0),(([] : List Int)),(by first | rfl|(simp;done)|(simp [*];done)),H',⟨Nat.le_refl _⟩,⟨by first|exact Kd.R_nil _ _ _ _ _|exact Kd.N_nil _ _ _ _ _|exact Kd.V_nil _ _ _ _ _|exact Kd.Q_nil _ _ _ _ _|exact Kd.S_nil _ _ _ _ _⟩,⟨by repeat (first|(with_reducible first|exact HB.out|apply below_alloc|apply pw_below_drewN|apply below_drew1)|exact HB.out)⟩⟩
 case round =>
  clear H'
  obtain ⟨x0_1, x3_1, rfl, HA, HK1, HO_3, HB⟩ := hrel
  cases gk with
  | zero => exact absurd HA.out (by simp [varint_Put.l0])
  | succ k1 =>
   have H := HA.out
   clear HA
   simp only [varint_Put.l0] at H
   by_cases c2 : x0_1 > 127
   ·rw [if_pos c2] at H
    have c2b0 : decide (127 < x0_1) = true := decide_eq_true c2
    clear c2
    by_cases c3 : x3_1.length < 140737488355328
    ·rw [if_pos c3] at H
     have LMc3 := Aside0.mk c3
     clear c3
     obtain ⟨y134, hy134⟩ : ∃ y_ : List Int, y_ = (x3_1 ++ [Go.bits .or .u8 ((x0_1) % 256) 128]) := ⟨_, rfl⟩
     replace H : (varint_Put.l0 k1 (x0_1 / 128) y134) = some r:=by first|(rw [hy134];with_reducible exact H)|(have H2_:=(Option.bind_some _ _).symm.trans H;rw [hy134];with_reducible exact H2_)|(have H2_:=(Option.bind_some _ _).symm.trans H;with_reducible exact H2_) | with_reducible exact H|(rw [hy134];exact H)|exact H
     have Ny134 := Aside0.mk hy134
     clear hy134
     have H' := Aside0.mk H
     clear H
     go_wp2_with (first|((with_reducible refine gate_builtin (b:=.append) (xs:=#[.tmp 6,.tmp 10]) rfl ?_);at_builtin;refine Kd.R_append (Kd.int .u8) (w0:=w) w.heap.size rfl (.tmp 6) (.tmp 10) 43 5 (.int .u8 0) 1 rfl Try.underlying43 info5 rfl (by decide) (by omega) u3 x3_1 (Go.bits .or .u8 ((x0_1) % 256) 128) [.int .u8 (Go.bits .or .u8 ((x0_1) % 256) 128)] (fun _=>True) (fun _=>False) rfl rfl ?aP (fun _ hk=>hk.elim) ?aF ?aO ?aB ?aS ?aL ?_;(case aP=>exact rfl);(case aB=>exact (by repeat (first|(with_reducible first|exact HB.out|apply below_alloc|apply pw_below_drewN|apply below_drew1)|exact HB.out)));(case aF=>exact (fun _ _=>trivial));(case aO=>exact (by (with_reducible repeat (first|apply Kd.R_alloc|apply Kd.R_drewN|apply Kd.R_drew));exact HO_3.out));(case aS=>exact (below_size (by repeat (first|(with_reducible first|exact HB.out|apply below_alloc|apply pw_below_drewN|apply below_drew1)|exact HB.out))));(case aL=>have:=LMc3.out;omega);intro v135 w4 ho hb hg hat;rw [← Ny134.out] at ho;have n0_:=Aside0.mk (hb);have n1_:=Aside0.mk (ho);clear HB;clear HO_3;have HB:=n0_;have HO136:=n1_;clear n0_ n1_;clear ho hb hg hat))
     go_roundg k1
     case measure => have := HK1.out; omega
     case rel=>exact ⟨(x0_1 / 128),(y134),(by first | rfl|(simp;done)|(simp [*];done)),H',⟨by have:=HK1.out;omega⟩,⟨by (with_reducible repeat (first|apply Kd.R_alloc|apply Kd.R_drewN|apply Kd.R_drew));exact HO136.out⟩,⟨by repeat (first|(with_reducible first|exact HB.out|apply below_alloc|apply pw_below_drewN|apply below_drew1)|exact HB.out)⟩⟩
    ·rw [if_neg c3] at H
     exact absurd H (by simp)
   ·rw [if_neg c2] at H
    have c2b0 : decide (127 < x0_1) = false := decide_eq_false c2
    clear c2
    by_cases c5 : x3_1.length < 140737488355328
    ·rw [if_pos c5] at H
     have LMc5 := Aside0.mk c5
     clear c5
     obtain ⟨y137, hy137⟩ : ∃ y_ : List Int, y_ = (x3_1 ++ [(x0_1) % 256]) := ⟨_, rfl⟩
     replace H : (some y137) = some r:=by first|(rw [hy137];with_reducible exact H)|(have H2_:=(Option.bind_some _ _).symm.trans H;rw [hy137];with_reducible exact H2_)|(have H2_:=(Option.bind_some _ _).symm.trans H;with_reducible exact H2_) | with_reducible exact H|(rw [hy137];exact H)|exact H
     have Ny137 := Aside0.mk hy137
     clear hy137
     obtain rfl := Option.some.inj H
     simp only [Option.some.injEq, Prod.mk.injEq] at H
     obtain ⟨rfl⟩ := H
     go_wp2_with (first|((with_reducible refine gate_builtin (b:=.append) (xs:=#[.tmp 14,.tmp 17]) rfl ?_);at_builtin;refine Kd.R_append (Kd.int .u8) (w0:=w) w.heap.size rfl (.tmp 14) (.tmp 17) 43 5 (.int .u8 0) 1 rfl Try.underlying43 info5 rfl (by decide) (by omega) u3 x3_1 ((x0_1) % 256) [.int .u8 ((x0_1) % 256)] (fun _=>True) (fun _=>False) rfl rfl ?aP (fun _ hk=>hk.elim) ?aF ?aO ?aB ?aS ?aL ?_;(case aP=>exact rfl);(case aB=>exact (by repeat (first|(with_reducible first|exact HB.out|apply below_alloc|apply pw_below_drewN|apply below_drew1)|exact HB.out)));(case aF=>exact (fun _ _=>trivial));(case aO=>exact (by (with_reducible repeat (first|apply Kd.R_alloc|apply Kd.R_drewN|apply Kd.R_drew));exact HO_3.out));(case aS=>exact (below_size (by repeat (first|(with_reducible first|exact HB.out|apply below_alloc|apply pw_below_drewN|apply below_drew1)|exact HB.out))));(case aL=>have:=LMc5.out;omega);intro v138 w6 ho hb hg hat;rw [← Ny137.out] at ho;have n0_:=Aside0.mk (hb);have n1_:=Aside0.mk (ho);clear HB;clear HO_3;have HB:=n0_;have HO139:=n1_;clear n0_ n1_;clear ho hb hg hat))
     go_ret
     exact ⟨_,by first | rfl|(simp [errW_none,errW_some] <;> rfl)|(simp [*,errW_none,errW_some] <;> rfl),by (with_reducible repeat (first|apply Kd.R_alloc|apply Kd.R_drewN|apply Kd.R_drew));exact HO139.out,by repeat (first|(with_reducible first|exact HB.out|apply below_alloc|apply pw_below_drewN|apply below_drew1)|exact HB.out)⟩
    ·rw [if_neg c5] at H
     exact absurd H (by simp)

/-! ### varint_fixed: function 73 -/
def varint_fixed.l0 : Nat → Int → List Int → Int → Int → Option (List Int)
 | 0, _, _, _, _ => none
 | k + 1,x0,x5,x7,x8=>if x8 < x7 then (if 0 ≤ (wrap64 (8 * x8)) then (if x5.length < 140737488355328 then (varint_fixed.l0 k x0 (x5 ++ [(shr .u64 x0 (wrap64 (8 * x8))) % 256]) x7 (wrap64 (x8 + 1))) else (none)) else (none)) else (some x5)
def varint_fixed.f (k : Nat) (a0 : Int) (a1 : Int) : Option (List Int) := varint_fixed.l0 k a0 ([] : List Int) a1 0
theorem varint_fixed.mono_l : ∀ k,(∀ y0 y1 y2 y3,LeO (varint_fixed.l0 k y0 y1 y2 y3) (varint_fixed.l0 (k + 1) y0 y1 y2 y3))
 | 0 => fun _ _ _ _ r h => by simp [varint_fixed.l0] at h
 | k + 1 => by
  have ih0 := varint_fixed.mono_l k
  ·intro y0 y1 y2 y3
   unfold varint_fixed.l0
   repeat' first
  |(with_reducible exact ih0 _ _ _ _)
  |(with_reducible exact LeO.refl _)
  |(with_reducible exact LeO.none _)
  |(with_reducible refine LeO.ite ?_ ?_)
  |(with_reducible refine LeO.bind ?_ (fun _ => ?_))
  |exact ih0 _ _ _ _
  |exact LeO.none _
  |refine LeO.ite ?_ ?_
  |refine LeO.bind ?_ (fun _ => ?_)
theorem varint_fixed.mono : ∀ a0 a1 k, LeO (varint_fixed.f k a0 a1) (varint_fixed.f (k + 1) a0 a1) := by
 intro a0 a1 k
 have ih0 := varint_fixed.mono_l k
 unfold varint_fixed.f
 repeat' first
  |(with_reducible exact ih0 _ _ _ _)
  |(with_reducible exact LeO.refl _)
  |(with_reducible exact LeO.none _)
  |(with_reducible refine LeO.ite ?_ ?_)
  |(with_reducible refine LeO.bind ?_ (fun _ => ?_))
  |exact ih0 _ _ _ _
  |exact LeO.none _
  |refine LeO.ite ?_ ?_
  |refine LeO.bind ?_ (fun _ => ?_)
set_option maxHeartbeats 80000000 in
set_option maxRecDepth 100000 in
theorem varint_fixed.calls (k : Nat) (a0 : Int) (a1 : Int) (r : List Int) (w : World) (h : varint_fixed.f k a0 a1 = some r) :
  Calls Try.prog 73 #[.int .u64 a0,.int .i64 a1] w fun e w'=>∃ v0_ : Value,e = .returned (v0_)∧Kd.R (Kd.int .u8) 5 w' w.heap.size (fun _=>True) v0_ r∧Below w.heap.size w w':=by
 have HB := Aside0.mk (Below.refl w.heap.size w)
 have H : (varint_fixed.l0 k a0 ([] : List Int) a1 0) = some r := h
 clear h
 have H' := Aside0.mk H
 clear H
 go_enter Try.func73, Try.ntmps73
 go_wp2
 go_loopg [5,8] k (fun kq v5 v8 w'=>∃ (x5_1 : List Int) (x8_1 : Int),v8 = .int .i64 x8_1∧Aside0 (varint_fixed.l0 kq a0 x5_1 a1 x8_1 = some r)∧Aside0 (kq ≤ k)∧Aside0 (Kd.R (Kd.int .u8) 5 w' w.heap.size (fun _=>True) v5 x5_1)∧Aside0 (Below w.heap.size w w'))
 case atStart=>exact ⟨(([] : List Int)),(0),(by first | rfl|(simp;done)|(simp [*];done)),H',⟨Nat.le_refl _⟩,⟨by first|exact Kd.R_nil _ _ _ _ _|exact Kd.N_nil _ _ _ _ _|exact Kd.V_nil _ _ _ _ _|exact Kd.Q_nil _ _ _ _ _|exact Kd.S_nil _ _ _ _ _⟩,⟨by repeat (first|(with_reducible first|exact HB.out|apply below_alloc|apply pw_below_drewN|apply below_drew1)|exact HB.out)⟩⟩
 case round =>
  clear H'
  try clear p2
  obtain ⟨x5_1, x8_1, rfl, HA, HK1, HO_5, HB⟩ := hrel
  cases gk with
  | zero => exact absurd HA.out (by simp [varint_fixed.l0])
  | succ k1 =>
   have H := HA.out
   clear HA
   simp only [varint_fixed.l0] at H
   by_cases c3 : x8_1 < a1
   ·rw [if_pos c3] at H
    have c3b0 : decide (x8_1 < a1) = true := decide_eq_true c3
    clear c3
    obtain ⟨ji4, hji4⟩ : ∃ j_ : Int, (wrap64 (8 * x8_1)) = j_ := ⟨_, rfl⟩
    replace H : (if 0 ≤ (ji4) then (if x5_1.length < 140737488355328 then (varint_fixed.l0 k1 a0 (x5_1 ++ [(shr .u64 a0 (ji4)) % 256]) a1 (wrap64 (x8_1 + 1))) else (none)) else (none)) = some r:=by first|(rw [hji4] at H;exact H)|(simp only [hji4] at H ⊢;exact H)
    have hji4w : (IntKind.i64.wrap (8 * x8_1)) = ji4 := (i64_w _).trans hji4
    by_cases c5 : 0 ≤ (ji4)
    ·rw [if_pos c5] at H
     have c5b0 := eq_true c5
     have c5b1 : decide (0 ≤ (ji4)) = true := decide_eq_true c5
     clear c5
     obtain ⟨ji6, hji6⟩ : ∃ j_ : Int, (shr .u64 a0 (ji4)) = j_ := ⟨_, rfl⟩
     replace H : (if x5_1.length < 140737488355328 then (varint_fixed.l0 k1 a0 (x5_1 ++ [(ji6) % 256]) a1 (wrap64 (x8_1 + 1))) else (none)) = some r:=by first|(rw [hji6] at H;exact H)|(simp only [hji6] at H ⊢;exact H)
     have hji6_ : (a0 / 2 ^ min (ji4).toNat 64) = ji6 := hji6
     have hji6z : (ji4) ≤ 64 → (a0 / 2 ^ (ji4).toNat) = ji6 := shr_small hji6
     by_cases c7 : x5_1.length < 140737488355328
     ·rw [if_pos c7] at H
      have LMc7 := Aside0.mk c7
      clear c7
      obtain ⟨y140, hy140⟩ : ∃ y_ : List Int, y_ = (x5_1 ++ [(ji6) % 256]) := ⟨_, rfl⟩
      replace H : (varint_fixed.l0 k1 a0 y140 a1 (wrap64 (x8_1 + 1))) = some r:=by first|(rw [hy140];with_reducible exact H)|(have H2_:=(Option.bind_some _ _).symm.trans H;rw [hy140];with_reducible exact H2_)|(have H2_:=(Option.bind_some _ _).symm.trans H;with_reducible exact H2_) | with_reducible exact H|(rw [hy140];exact H)|exact H
      have Ny140 := Aside0.mk hy140
      clear hy140
      have H' := Aside0.mk H
      clear H
      go_wp2_with (first|((with_reducible refine gate_builtin (b:=.append) (xs:=#[.tmp 11,.tmp 17]) rfl ?_);at_builtin;refine Kd.R_append (Kd.int .u8) (w0:=w) w.heap.size rfl (.tmp 11) (.tmp 17) 43 5 (.int .u8 0) 1 rfl Try.underlying43 info5 rfl (by decide) (by omega) u5 x5_1 ((ji6) % 256) [.int .u8 ((ji6) % 256)] (fun _=>True) (fun _=>False) rfl rfl ?aP (fun _ hk=>hk.elim) ?aF ?aO ?aB ?aS ?aL ?_;(case aP=>exact rfl);(case aB=>exact (by repeat (first|(with_reducible first|exact HB.out|apply below_alloc|apply pw_below_drewN|apply below_drew1)|exact HB.out)));(case aF=>exact (fun _ _=>trivial));(case aO=>exact (by (with_reducible repeat (first|apply Kd.R_alloc|apply Kd.R_drewN|apply Kd.R_drew));exact HO_5.out));(case aS=>exact (below_size (by repeat (first|(with_reducible first|exact HB.out|apply below_alloc|apply pw_below_drewN|apply below_drew1)|exact HB.out))));(case aL=>have:=LMc7.out;omega);intro v141 w8 ho hb hg hat;rw [← Ny140.out] at ho;have n0_:=Aside0.mk (hb);have n1_:=Aside0.mk (ho);clear HB;clear HO_5;have HB:=n0_;have HO142:=n1_;clear n0_ n1_;clear ho hb hg hat))
      go_roundg k1
      case measure => have := HK1.out; omega
      case rel=>exact ⟨(y140),(wrap64 (x8_1 + 1)),(by first | rfl|(simp;done)|(simp [*];done)),H',⟨by have:=HK1.out;omega⟩,⟨by (with_reducible repeat (first|apply Kd.R_alloc|apply Kd.R_drewN|apply Kd.R_drew));exact HO142.out⟩,⟨by repeat (first|(with_reducible first|exact HB.out|apply below_alloc|apply pw_below_drewN|apply below_drew1)|exact HB.out)⟩⟩
     ·rw [if_neg c7] at H
      exact absurd H (by simp)
    ·rw [if_neg c5] at H
     exact absurd H (by simp)
   ·rw [if_neg c3] at H
    have c3b0 : decide (x8_1 < a1) = false := decide_eq_false c3
    clear c3
    obtain rfl := Option.some.inj H
    simp only [Option.some.injEq, Prod.mk.injEq] at H
    obtain ⟨rfl⟩ := H
    go_wp2
    go_ret
    exact ⟨_,by first | rfl|(simp [errW_none,errW_some] <;> rfl)|(simp [*,errW_none,errW_some] <;> rfl),by (with_reducible repeat (first|apply Kd.R_alloc|apply Kd.R_drewN|apply Kd.R_drew));exact HO_5.out,by repeat (first|(with_reducible first|exact HB.out|apply below_alloc|apply pw_below_drewN|apply below_drew1)|exact HB.out)⟩

/-! ### varint_Put32: function 52 -/
def varint_Put32.f (k : Nat) (a0 : Int) : Option (List Int):=(varint_fixed.f k (IntKind.u64.wrap (a0)) 4).bind fun t143=>(some t143)
theorem varint_Put32.mono : ∀ a0 k, LeO (varint_Put32.f k a0) (varint_Put32.f (k + 1) a0) := by
 intro a0 k
 unfold varint_Put32.f
 repeat' first
  |(with_reducible exact varint_fixed.mono _ _ _)
  |(with_reducible exact LeO.refl _)
  |(with_reducible exact LeO.none _)
  |(with_reducible refine LeO.ite ?_ ?_)
  |(with_reducible refine LeO.bind ?_ (fun _ => ?_))
  |exact varint_fixed.mono _ _ _
  |exact LeO.none _
  |refine LeO.ite ?_ ?_
  |refine LeO.bind ?_ (fun _ => ?_)
set_option maxHeartbeats 80000000 in
set_option maxRecDepth 100000 in
theorem varint_Put32.calls (k : Nat) (a0 : Int) (r : List Int) (w : World) (h : varint_Put32.f k a0 = some r) :
  Calls Try.prog 52 #[.int .u32 a0] w fun e w'=>∃ v0_ : Value,e = .returned (v0_)∧Kd.R (Kd.int .u8) 5 w' w.heap.size (fun _=>True) v0_ r∧Below w.heap.size w w':=by
 have HB := Aside0.mk (Below.refl w.heap.size w)
 have H : ((varint_fixed.f k (IntKind.u64.wrap (a0)) 4).bind fun t143 => (some t143)) = some r := h
 clear h
 replace H := Option.bind_eq_some_iff.mp H
 obtain ⟨t143, A20, H⟩ := H
 replace H : (some t143) = some r := H
 have A2 := Aside0.mk A20
 clear A20
 obtain rfl := Option.some.inj H
 simp only [Option.some.injEq, Prod.mk.injEq] at H
 obtain ⟨rfl⟩ := H
 go_enter Try.func52, Try.ntmps52
 go_wp2_with (first|((with_reducible refine gate_callee (f:=73) rfl ?_);refine goesL_ (some 5) rfl rfl Try.func73 (by kernel_rfl) rfl #[.int .u64 (IntKind.u64.wrap (a0)),.int .i64 4] rfl (by (try simp only [List.map_toArray,List.map_cons,List.map_nil]);first | done | rfl|(simp only [List.length_drop,List.length_take];rfl)) ?_;(with_reducible refine (varint_fixed.calls k (IntKind.u64.wrap (a0)) 4 t143 _ A2.out).mono ?_);rintro e w3 ⟨v144,rfl,ho0,hb⟩;refine ⟨_,rfl,?_⟩;have n0_:=Aside0.mk (Kd.R_lower ho0 (below_size (by repeat (first|(with_reducible first|exact HB.out|apply below_alloc|apply pw_below_drewN|apply below_drew1)|exact HB.out))));have n1_:=Aside0.mk (below_step (by repeat (first|(with_reducible first|exact HB.out|apply below_alloc|apply pw_below_drewN|apply below_drew1)|exact HB.out)) hb);clear HB;have HO145:=n0_;have HB:=n1_;clear n0_ n1_;(try clear hb);(try clear hb2);(try clear hk);(try clear hi);(try clear ho0)))
 go_ret
 exact ⟨_,by first | rfl|(simp [errW_none,errW_some] <;> rfl)|(simp [*,errW_none,errW_some] <;> rfl),by (with_reducible repeat (first|apply Kd.R_alloc|apply Kd.R_drewN|apply Kd.R_drew));exact HO145.out,by repeat (first|(with_reducible first|exact HB.out|apply below_alloc|apply pw_below_drewN|apply below_drew1)|exact HB.out)⟩

/-! ### block_shared: function 70 -/
def block_shared.l0 : Nat → ByteArray → ByteArray → Int → Option (Int)
 | 0, _, _, _ => none
 | k + 1,x0,x1,x5=>if x5 < (x0.size : Int) then (if x5 < (x1.size : Int) then (if 0 ≤ x5 then (if (bt x0 x5) = (bt x1 x5) then (block_shared.l0 k x0 x1 (wrap64 (x5 + 1))) else (some x5)) else (none)) else (some x5)) else (some x5)
def block_shared.f (k : Nat) (a0 : ByteArray) (a1 : ByteArray) : Option (Int) := block_shared.l0 k a0 a1 0
theorem block_shared.mono_l : ∀ k, (∀ y0 y1 y2, LeO (block_shared.l0 k y0 y1 y2) (block_shared.l0 (k + 1) y0 y1 y2))
 | 0 => fun _ _ _ r h => by simp [block_shared.l0] at h
 | k + 1 => by
  have ih0 := block_shared.mono_l k
  ·intro y0 y1 y2
   unfold block_shared.l0
   repeat' first
  |(with_reducible exact ih0 _ _ _)
  |(with_reducible exact LeO.refl _)
  |(with_reducible exact LeO.none _)
  |(with_reducible refine LeO.ite ?_ ?_)
  |(with_reducible refine LeO.bind ?_ (fun _ => ?_))
  |exact ih0 _ _ _
  |exact LeO.none _
  |refine LeO.ite ?_ ?_
  |refine LeO.bind ?_ (fun _ => ?_)
theorem block_shared.mono : ∀ a0 a1 k, LeO (block_shared.f k a0 a1) (block_shared.f (k + 1) a0 a1) := by
 intro a0 a1 k
 have ih0 := block_shared.mono_l k
 unfold block_shared.f
 repeat' first
  |(with_reducible exact ih0 _ _ _)
  |(with_reducible exact LeO.refl _)
  |(with_reducible exact LeO.none _)
  |(with_reducible refine LeO.ite ?_ ?_)
  |(with_reducible refine LeO.bind ?_ (fun _ => ?_))
  |exact ih0 _ _ _
  |exact LeO.none _
  |refine LeO.ite ?_ ?_
  |refine LeO.bind ?_ (fun _ => ?_)
set_option maxHeartbeats 80000000 in
set_option maxRecDepth 100000 in
theorem block_shared.calls (k : Nat) (a0 : ByteArray) (a1 : ByteArray) (r : Int) (w : World) (h : block_shared.f k a0 a1 = some r) :
  Calls Try.prog 70 #[.string a0, .string a1] w fun e w' => e = .returned (.int .i64 r) ∧ Drawn0 w w' := by
 have H : (block_shared.l0 k a0 a1 0) = some r := h
 clear h
 have H' := Aside0.mk H
 clear H
 go_enter Try.func70, Try.ntmps70
 go_wp2
 repeat (go_quiet (fail); try go_wp2)
 go_loopg [5] k (fun kq v5 w'=>∃ (x5_1 : Int),v5 = .int .i64 x5_1∧Aside0 (block_shared.l0 kq a0 a1 x5_1 = some r)∧Aside0 (kq ≤ k)∧Drawn0 w w')
 case atStart=>exact ⟨(0),(by first | rfl|(simp;done)|(simp [*];done)),H',⟨Nat.le_refl _⟩,by repeat (first|exact Drawn0.refl _|apply Drawn0.step)⟩
 case round =>
  clear H'
  try clear p2
  obtain ⟨x5_1, rfl, HA, HK1, ⟨m1, rfl⟩⟩ := hrel
  cases gk with
  | zero => exact absurd HA.out (by simp [block_shared.l0])
  | succ k1 =>
   have H := HA.out
   clear HA
   simp only [block_shared.l0] at H
   by_cases c3 : x5_1 < (a0.size : Int)
   ·rw [if_pos c3] at H
    have c3b0 : decide (x5_1 < (a0.size : Int)) = true := decide_eq_true c3
    clear c3
    by_cases c4 : x5_1 < (a1.size : Int)
    ·rw [if_pos c4] at H
     have c4b0 : decide (x5_1 < (a1.size : Int)) = true := decide_eq_true c4
     clear c4
     by_cases c5 : 0 ≤ x5_1
     ·rw [if_pos c5] at H
      have c5b0 : decide (0 ≤ x5_1) = true := decide_eq_true c5
      clear c5
      by_cases c8 : (bt a0 x5_1) = (bt a1 x5_1)
      ·rw [if_pos c8] at H
       have c8b0 : ((bt a0 x5_1) == (bt a1 x5_1)) = true := beq_iff_eq.mpr c8
       have c8b1 : ((bt a0 x5_1) != (bt a1 x5_1)) = false := bne_eq_false_iff_eq.mpr c8
       clear c8
       have H' := Aside0.mk H
       clear H
       have p6 : 0 ≤ (x5_1 : Int) := of_decide_eq_true (by first|(with_reducible assumption) | assumption)
       have q6 : x5_1 < (a0.size : Int) := of_decide_eq_true (by first|(with_reducible assumption) | assumption)
       have hx6 := bt_at a0 x5_1
       replace p6 := eq_true p6
       replace q6 := eq_true q6
       have p7 : 0 ≤ (x5_1 : Int) := of_decide_eq_true (by first|(with_reducible assumption) | assumption)
       have q7 : x5_1 < (a1.size : Int) := of_decide_eq_true (by first|(with_reducible assumption) | assumption)
       have hx7 := bt_at a1 x5_1
       replace p7 := eq_true p7
       replace q7 := eq_true q7
       go_wp2
       repeat (go_quiet (fail); try go_wp2)
       go_roundg k1
       case measure => have := HK1.out; omega
       case rel=>exact ⟨(wrap64 (x5_1 + 1)),(by first | rfl|(simp;done)|(simp [*];done)),H',⟨by have:=HK1.out;omega⟩,by repeat (first|exact Drawn0.refl _|apply Drawn0.step)⟩
      ·rw [if_neg c8] at H
       have c8b0 : ((bt a0 x5_1) == (bt a1 x5_1)) = false := beq_eq_false_iff_ne.mpr c8
       have c8b1 : ((bt a0 x5_1) != (bt a1 x5_1)) = true := bne_iff_ne.mpr c8
       obtain rfl := Option.some.inj H
       simp only [Option.some.injEq, Prod.mk.injEq] at H
       obtain ⟨rfl⟩ := H
       have p6 : 0 ≤ (x5_1 : Int) := of_decide_eq_true (by first|(with_reducible assumption) | assumption)
       have q6 : x5_1 < (a0.size : Int) := of_decide_eq_true (by first|(with_reducible assumption) | assumption)
       have hx6 := bt_at a0 x5_1
       replace p6 := eq_true p6
       replace q6 := eq_true q6
       have p7 : 0 ≤ (x5_1 : Int) := of_decide_eq_true (by first|(with_reducible assumption) | assumption)
       have q7 : x5_1 < (a1.size : Int) := of_decide_eq_true (by first|(with_reducible assumption) | assumption)
       have hx7 := bt_at a1 x5_1
       replace p7 := eq_true p7
       replace q7 := eq_true q7
       go_wp2
       repeat (go_quiet (fail); try go_wp2)
       go_ret
       exact ⟨by first | rfl|(simp; done)|(simp [*]; done), by repeat (first|exact Drawn0.refl _|apply Drawn0.step)⟩
     ·rw [if_neg c5] at H
      exact absurd H (by simp)
    ·rw [if_neg c4] at H
     have c4b0 : decide (x5_1 < (a1.size : Int)) = false := decide_eq_false c4
     clear c4
     obtain rfl := Option.some.inj H
     simp only [Option.some.injEq, Prod.mk.injEq] at H
     obtain ⟨rfl⟩ := H
     go_wp2
     repeat (go_quiet (fail); try go_wp2)
     go_ret
     exact ⟨by first | rfl|(simp; done)|(simp [*]; done), by repeat (first|exact Drawn0.refl _|apply Drawn0.step)⟩
   ·rw [if_neg c3] at H
    have c3b0 : decide (x5_1 < (a0.size : Int)) = false := decide_eq_false c3
    clear c3
    obtain rfl := Option.some.inj H
    simp only [Option.some.injEq, Prod.mk.injEq] at H
    obtain ⟨rfl⟩ := H
    go_wp2
    repeat (go_quiet (fail); try go_wp2)
    go_ret
    exact ⟨by first | rfl|(simp; done)|(simp [*]; done), by repeat (first|exact Drawn0.refl _|apply Drawn0.step)⟩

-- NOT PRINTED: function 45 (block_Builder_Add)

/-! ### table_key: function 46 -/
mutual
def table_key.l0 : Nat → List Int → Int → Int → ByteArray → Int → Int → ByteArray → ByteArray → Option (ByteArray)
 | 0, _, _, _, _, _, _, _, _ => none
 | k + 1,x3,x9,x10,x147000,x147001,x147002,x147003,x147004=>if x10 < x9 then (if 0 ≤ x10 then (if x10 < (x147000.size : Int) then (if x3.length < 140737488355328 then ((some (x3 ++ [bt x147000 x10] : List Int)).bind fun y147=>(if (bt x147000 x10) = 0 then (if y147.length < 140737488355328 then (table_key.l0 k (y147 ++ [1]) x9 (wrap64 (x10 + 1)) x147000 x147001 x147002 x147003 x147004) else (none)) else (table_key.l0 k y147 x9 (wrap64 (x10 + 1)) x147000 x147001 x147002 x147003 x147004))) else (none)) else (none)) else (none)) else ((some (([0,0] : List Int) : List Int)).bind fun y153=>(if x3.length + y153.length < 140737488355328 then (table_key.l1 k (x3 ++ y153) (IntKind.u64.wrap (wrap64 (4611686018427387904 - x147001))) 7 x147000 x147001 x147002 x147003 x147004) else (none)))
def table_key.l1 : Nat → List Int → Int → Int → ByteArray → Int → Int → ByteArray → ByteArray → Option (ByteArray)
 | 0, _, _, _, _, _, _, _, _ => none
 | k + 1,x3,x5,x6,x147000,x147001,x147002,x147003,x147004=>if x6 ≥ 0 then (if 0 ≤ (wrap64 (8 * x6)) then (if x3.length < 140737488355328 then (table_key.l1 k (x3 ++ [(shr .u64 x5 (wrap64 (8 * x6))) % 256]) x5 (wrap64 (x6 - 1)) x147000 x147001 x147002 x147003 x147004) else (none)) else (none)) else (if x3.length < 140737488355328 then (some (strOfNums (x3 ++ [(wrap64 (1 - x147002)) % 256]))) else (none))
end
def table_key.f (k : Nat) (a0_0 : ByteArray) (a0_1 : Int) (a0_2 : Int) (a0_3 : ByteArray) (a0_4 : ByteArray) : Option (ByteArray):=table_key.l0 k ([] : List Int) (a0_0.size : Int) 0 a0_0 a0_1 a0_2 a0_3 a0_4
theorem table_key.mono_l : ∀ k,(∀ y0 y1 y2 y3 y4 y5 y6 y7,LeO (table_key.l0 k y0 y1 y2 y3 y4 y5 y6 y7) (table_key.l0 (k + 1) y0 y1 y2 y3 y4 y5 y6 y7))∧(∀ y0 y1 y2 y3 y4 y5 y6 y7,LeO (table_key.l1 k y0 y1 y2 y3 y4 y5 y6 y7) (table_key.l1 (k + 1) y0 y1 y2 y3 y4 y5 y6 y7))
 | 0 => ⟨fun _ _ _ _ _ _ _ _ r h => by simp [table_key.l0] at h, fun _ _ _ _ _ _ _ _ r h => by simp [table_key.l1] at h⟩
 | k + 1 => by
  obtain ⟨ih0, ih1⟩ := table_key.mono_l k
  refine ⟨?_, ?_⟩
  ·intro y0 y1 y2 y3 y4 y5 y6 y7
   unfold table_key.l0
   repeat' first
  |(with_reducible exact ih0 _ _ _ _ _ _ _ _)
  |(with_reducible exact ih1 _ _ _ _ _ _ _ _)
  |(with_reducible exact LeO.refl _)
  |(with_reducible exact LeO.none _)
  |(with_reducible refine LeO.ite ?_ ?_)
  |(with_reducible refine LeO.bind ?_ (fun _ => ?_))
  |exact ih0 _ _ _ _ _ _ _ _
  |exact ih1 _ _ _ _ _ _ _ _
  |exact LeO.none _
  |refine LeO.ite ?_ ?_
  |refine LeO.bind ?_ (fun _ => ?_)
  ·intro y0 y1 y2 y3 y4 y5 y6 y7
   unfold table_key.l1
   repeat' first
  |(with_reducible exact ih0 _ _ _ _ _ _ _ _)
  |(with_reducible exact ih1 _ _ _ _ _ _ _ _)
  |(with_reducible exact LeO.refl _)
  |(with_reducible exact LeO.none _)
  |(with_reducible refine LeO.ite ?_ ?_)
  |(with_reducible refine LeO.bind ?_ (fun _ => ?_))
  |exact ih0 _ _ _ _ _ _ _ _
  |exact ih1 _ _ _ _ _ _ _ _
  |exact LeO.none _
  |refine LeO.ite ?_ ?_
  |refine LeO.bind ?_ (fun _ => ?_)
theorem table_key.mono : ∀ a0 a1 a2 a3 a4 k,LeO (table_key.f k a0 a1 a2 a3 a4) (table_key.f (k + 1) a0 a1 a2 a3 a4):=by
 intro a0 a1 a2 a3 a4 k
 obtain ⟨ih0, ih1⟩ := table_key.mono_l k
 unfold table_key.f
 repeat' first
  |(with_reducible exact ih0 _ _ _ _ _ _ _ _)
  |(with_reducible exact ih1 _ _ _ _ _ _ _ _)
  |(with_reducible exact LeO.refl _)
  |(with_reducible exact LeO.none _)
  |(with_reducible refine LeO.ite ?_ ?_)
  |(with_reducible refine LeO.bind ?_ (fun _ => ?_))
  |exact ih0 _ _ _ _ _ _ _ _
  |exact ih1 _ _ _ _ _ _ _ _
  |exact LeO.none _
  |refine LeO.ite ?_ ?_
  |refine LeO.bind ?_ (fun _ => ?_)
set_option maxHeartbeats 80000000 in
set_option maxRecDepth 100000 in
theorem table_key.calls (k : Nat) (a0_0 : ByteArray) (a0_1 : Int) (a0_2 : Int) (a0_3 : ByteArray) (a0_4 : ByteArray) (r : ByteArray) (w : World) (h : table_key.f k a0_0 a0_1 a0_2 a0_3 a0_4 = some r) :
  Calls Try.prog 46 #[.agg #[.string a0_0,.int .i64 a0_1,.int .i64 a0_2,.string a0_3,.string a0_4]] w fun e w'=>e = .returned (.string r)∧Below w.heap.size w w':=by
 have hu28 := Try.underlying28
 have HB := Aside0.mk (Below.refl w.heap.size w)
 have H : (table_key.l0 k ([] : List Int) (a0_0.size : Int) 0 a0_0 a0_1 a0_2 a0_3 a0_4) = some r := h
 clear h
 have H' := Aside0.mk H
 clear H
 go_enter Try.func46, Try.ntmps46
 go_wp2_with (first|((with_reducible refine gate_dst (N:=1) rfl ?_);refine box_event ?hg (N:=1) ?hd (cs:=#[.string a0_0,.int .i64 a0_1,.int .i64 a0_2,.string a0_3,.string a0_4]) (t:=28) ?hr ?_;(case hd=>rfl);(case hg=>rfl);(case hr=>first|(go_simp;done)|(go_simp;rfl));intro gb146 hg w2 hbox hb;have n0_:=Aside0.mk (below_step (by repeat (first|(with_reducible first|exact HB.out|apply below_alloc|apply pw_below_drewN|apply below_drew1)|exact HB.out)) hb);have n1_:=Aside0.mk (hbox);have n2_:=Aside0.mk ((by rw [hg];exact (below_size (by repeat (first|(with_reducible first|exact HB.out|apply below_alloc|apply pw_below_drewN|apply below_drew1)|exact HB.out))) : w.heap.size ≤ gb146));have n3_:=Aside0.mk ((by rw [hg];exact (below_size (by repeat (first|(with_reducible first|exact HB.out|apply below_alloc|apply pw_below_drewN|apply below_drew1)|exact HB.out))) : w.heap.size ≤ gb146));clear HB;have HB:=n0_;have BK146:=n1_;have GW146:=n2_;have GE146:=n3_;clear n0_ n1_ n2_ n3_;clear hb hbox hg;have hcz3_0 : w2.cell? ⟨gb146,0,none⟩ = some (.string a0_0):=(blk_cell BK146.out 0).trans rfl;have hcz3_1 : w2.cell? ⟨gb146,1,none⟩ = some (.int .i64 a0_1):=(blk_cell BK146.out 1).trans rfl;have hcz3_2 : w2.cell? ⟨gb146,2,none⟩ = some (.int .i64 a0_2):=(blk_cell BK146.out 2).trans rfl;have hcz3_3 : w2.cell? ⟨gb146,3,none⟩ = some (.string a0_3):=(blk_cell BK146.out 3).trans rfl;have hcz3_4 : w2.cell? ⟨gb146,4,none⟩ = some (.string a0_4):=(blk_cell BK146.out 4).trans rfl;have hfz3_0:=blk_frozen BK146.out 0;have hfz3_1:=blk_frozen BK146.out 1;have hfz3_2:=blk_frozen BK146.out 2;have hfz3_3:=blk_frozen BK146.out 3;have hfz3_4:=blk_frozen BK146.out 4))
 go_loopg [3,10] k (fun kq v3 v10 w'=>∃ (x3_1 : List Int) (x10_1 : Int),v10 = .int .i64 x10_1∧Aside0 (table_key.l0 kq x3_1 (a0_0.size : Int) x10_1 a0_0 a0_1 a0_2 a0_3 a0_4 = some r)∧Aside0 (kq ≤ k)∧Aside0 (Kd.R (Kd.int .u8) 5 w' w.heap.size (fun _=>True) v3 x3_1)∧Aside0 (w'.heap[gb146]? = some (.cells #[.string a0_0,.int .i64 a0_1,.int .i64 a0_2,.string a0_3,.string a0_4] 28 (0,0)))∧Aside0 (Below w.heap.size w w'))
 case atStart=>exact ⟨(([] : List Int)),(0),(by first | rfl|(simp;done)|(simp [*];done)),H',⟨Nat.le_refl _⟩,⟨by first|exact Kd.R_nil _ _ _ _ _|exact Kd.N_nil _ _ _ _ _|exact Kd.V_nil _ _ _ _ _|exact Kd.Q_nil _ _ _ _ _|exact Kd.S_nil _ _ _ _ _⟩,⟨by (with_reducible repeat (first|refine blk_drewN ?_ _|refine blk_drew ?_|refine blk_alloc ?_ _));exact BK146.out⟩,⟨by repeat (first|(with_reducible first|exact HB.out|apply below_alloc|apply pw_below_drewN|apply below_drew1|refine below_set ?_ GE146.out)|exact HB.out)⟩⟩
 case round =>
  clear H'
  try clear p2
  try clear hcz3_0
  try clear hcz3_1
  try clear hcz3_2
  try clear hcz3_3
  try clear hcz3_4
  try clear hfz3_0
  try clear hfz3_1
  try clear hfz3_2
  try clear hfz3_3
  try clear hfz3_4
  obtain ⟨x3_1, x10_1, rfl, HA, HK1, HO_3, BK146, HB⟩ := hrel
  cases gk with
  | zero => exact absurd HA.out (by simp [table_key.l0])
  | succ k1 =>
   have H := HA.out
   clear HA
   simp only [table_key.l0] at H
   by_cases c4 : x10_1 < (a0_0.size : Int)
   ·rw [if_pos c4] at H
    have c4b0 : decide (x10_1 < (a0_0.size : Int)) = true := decide_eq_true c4
    clear c4
    by_cases c5 : 0 ≤ x10_1
    ·rw [if_pos c5] at H
     have c5b0 : decide (0 ≤ x10_1) = true := decide_eq_true c5
     clear c5
     by_cases c6 : x10_1 < (a0_0.size : Int)
     ·rw [if_pos c6] at H
      have c6b0 : decide (x10_1 < (a0_0.size : Int)) = true := decide_eq_true c6
      clear c6
      by_cases c8 : x3_1.length < 140737488355328
      ·rw [if_pos c8] at H
       have LMc8 := Aside0.mk c8
       clear c8
       obtain ⟨y147, hy147⟩ : ∃ y_ : List Int, y_ = (x3_1 ++ [bt a0_0 x10_1]) := ⟨_, rfl⟩
       replace H : (if (bt a0_0 x10_1) = 0 then (if y147.length < 140737488355328 then (table_key.l0 k1 (y147 ++ [1]) (a0_0.size : Int) (wrap64 (x10_1 + 1)) a0_0 a0_1 a0_2 a0_3 a0_4) else (none)) else (table_key.l0 k1 y147 (a0_0.size : Int) (wrap64 (x10_1 + 1)) a0_0 a0_1 a0_2 a0_3 a0_4)) = some r:=by first|(rw [hy147];with_reducible exact H)|(have H2_:=(Option.bind_some _ _).symm.trans H;rw [hy147];with_reducible exact H2_)|(have H2_:=(Option.bind_some _ _).symm.trans H;with_reducible exact H2_) | with_reducible exact H|(rw [hy147];exact H)|exact H
       have Ny147 := Aside0.mk hy147
       clear hy147
       by_cases c10 : (bt a0_0 x10_1) = 0
       ·rw [if_pos c10] at H
        have c10b0 : ((bt a0_0 x10_1) == 0) = true := beq_iff_eq.mpr c10
        have c10b1 : ((bt a0_0 x10_1) != 0) = false := bne_eq_false_iff_eq.mpr c10
        clear c10
        by_cases c11 : y147.length < 140737488355328
        ·rw [if_pos c11] at H
         have LMc11 := Aside0.mk c11
         clear c11
         obtain ⟨y150, hy150⟩ : ∃ y_ : List Int, y_ = (y147 ++ [1]) := ⟨_, rfl⟩
         replace H : (table_key.l0 k1 y150 (a0_0.size : Int) (wrap64 (x10_1 + 1)) a0_0 a0_1 a0_2 a0_3 a0_4) = some r:=by first|(rw [hy150];with_reducible exact H)|(have H2_:=(Option.bind_some _ _).symm.trans H;rw [hy150];with_reducible exact H2_)|(have H2_:=(Option.bind_some _ _).symm.trans H;with_reducible exact H2_) | with_reducible exact H|(rw [hy150];exact H)|exact H
         have Ny150 := Aside0.mk hy150
         clear hy150
         have H' := Aside0.mk H
         clear H
         have hcz12_0 : wr.cell? ⟨gb146, 0, none⟩ = some (.string a0_0) := (blk_cell BK146.out 0).trans rfl
         have hcz12_1 : wr.cell? ⟨gb146, 1, none⟩ = some (.int .i64 a0_1) := (blk_cell BK146.out 1).trans rfl
         have hcz12_2 : wr.cell? ⟨gb146, 2, none⟩ = some (.int .i64 a0_2) := (blk_cell BK146.out 2).trans rfl
         have hcz12_3 : wr.cell? ⟨gb146, 3, none⟩ = some (.string a0_3) := (blk_cell BK146.out 3).trans rfl
         have hcz12_4 : wr.cell? ⟨gb146, 4, none⟩ = some (.string a0_4) := (blk_cell BK146.out 4).trans rfl
         have hfz12_0 := blk_frozen BK146.out 0
         have hfz12_1 := blk_frozen BK146.out 1
         have hfz12_2 := blk_frozen BK146.out 2
         have hfz12_3 := blk_frozen BK146.out 3
         have hfz12_4 := blk_frozen BK146.out 4
         have p7 : 0 ≤ (x10_1 : Int) := of_decide_eq_true (by first|(with_reducible assumption) | assumption)
         have q7 : x10_1 < (a0_0.size : Int) := of_decide_eq_true (by first|(with_reducible assumption) | assumption)
         have hx7 := bt_at a0_0 x10_1
         replace p7 := eq_true p7
         replace q7 := eq_true q7
         go_wp2_with (first|((with_reducible refine gate_builtin (b:=.append) (xs:=#[.tmp 13,.tmp 18]) rfl ?_);at_builtin;refine Kd.R_append (Kd.int .u8) (w0:=w) w.heap.size rfl (.tmp 13) (.tmp 18) 43 5 (.int .u8 0) 1 rfl Try.underlying43 info5 rfl (by decide) (by omega) u3 x3_1 (bt a0_0 x10_1) [.int .u8 (bt a0_0 x10_1)] (fun _=>True) (fun _=>False) rfl rfl ?aP (fun _ hk=>hk.elim) ?aF ?aO ?aB ?aS ?aL ?_;(case aP=>exact rfl);(case aB=>exact (by repeat (first|(with_reducible first|exact HB.out|apply below_alloc|apply pw_below_drewN|apply below_drew1|refine below_set ?_ GE146.out)|exact HB.out)));(case aF=>exact (fun _ _=>trivial));(case aO=>exact (by (with_reducible repeat (first|apply Kd.R_alloc|apply Kd.R_drewN|apply Kd.R_drew));exact HO_3.out));(case aS=>exact (below_size (by repeat (first|(with_reducible first|exact HB.out|apply below_alloc|apply pw_below_drewN|apply below_drew1|refine below_set ?_ GE146.out)|exact HB.out))));(case aL=>have:=LMc8.out;omega);intro v148 w13 ho hb hg hat;rw [← Ny147.out] at ho;have n0_:=Aside0.mk (blk_grown (g:=gb146) (o:=.cells #[.string a0_0,.int .i64 a0_1,.int .i64 a0_2,.string a0_3,.string a0_4] 28 (0,0)) (by (with_reducible repeat (first|refine blk_drewN ?_ _|refine blk_drew ?_|refine blk_alloc ?_ _));exact BK146.out) hg (Kd.R_ne HO_3.out BK146.out (by decide)));have n1_:=Aside0.mk (hb);have n2_:=Aside0.mk (ho);clear BK146;clear HB;clear HO_3;have BK146:=n0_;have HB:=n1_;have HO149:=n2_;clear n0_ n1_ n2_;clear ho hb hg hat;have hcz14_0 : w13.cell? ⟨gb146,0,none⟩ = some (.string a0_0):=(blk_cell BK146.out 0).trans rfl;have hcz14_1 : w13.cell? ⟨gb146,1,none⟩ = some (.int .i64 a0_1):=(blk_cell BK146.out 1).trans rfl;have hcz14_2 : w13.cell? ⟨gb146,2,none⟩ = some (.int .i64 a0_2):=(blk_cell BK146.out 2).trans rfl;have hcz14_3 : w13.cell? ⟨gb146,3,none⟩ = some (.string a0_3):=(blk_cell BK146.out 3).trans rfl;have hcz14_4 : w13.cell? ⟨gb146,4,none⟩ = some (.string a0_4):=(blk_cell BK146.out 4).trans rfl;have hfz14_0:=blk_frozen BK146.out 0;have hfz14_1:=blk_frozen BK146.out 1;have hfz14_2:=blk_frozen BK146.out 2;have hfz14_3:=blk_frozen BK146.out 3;have hfz14_4:=blk_frozen BK146.out 4;have p9 : 0 ≤ (x10_1 : Int):=of_decide_eq_true (by first|(with_reducible assumption) | assumption);have q9 : x10_1 < (a0_0.size : Int):=of_decide_eq_true (by first|(with_reducible assumption) | assumption);have hx9:=bt_at a0_0 x10_1;replace p9:=eq_true p9;replace q9:=eq_true q9)|((with_reducible refine gate_builtin (b:=.append) (xs:=#[.tmp 25,.tmp 26]) rfl ?_);at_builtin;refine Kd.R_append (Kd.int .u8) (w0:=w) w.heap.size rfl (.tmp 25) (.tmp 26) 43 5 (.int .u8 0) 1 rfl Try.underlying43 info5 rfl (by decide) (by omega) v148 y147 1 [.int .u8 1] (fun _=>True) (fun _=>False) rfl rfl ?aP (fun _ hk=>hk.elim) ?aF ?aO ?aB ?aS ?aL ?_;(case aP=>exact rfl);(case aB=>exact (by repeat (first|(with_reducible first|exact HB.out|apply below_alloc|apply pw_below_drewN|apply below_drew1|refine below_set ?_ GE146.out)|exact HB.out)));(case aF=>exact (fun _ _=>trivial));(case aO=>exact (by (with_reducible repeat (first|apply Kd.R_alloc|apply Kd.R_drewN|apply Kd.R_drew));exact HO149.out));(case aS=>exact (below_size (by repeat (first|(with_reducible first|exact HB.out|apply below_alloc|apply pw_below_drewN|apply below_drew1|refine below_set ?_ GE146.out)|exact HB.out))));(case aL=>have:=LMc11.out;omega);intro v151 w15 ho hb hg hat;rw [← Ny150.out] at ho;have n0_:=Aside0.mk (blk_grown (g:=gb146) (o:=.cells #[.string a0_0,.int .i64 a0_1,.int .i64 a0_2,.string a0_3,.string a0_4] 28 (0,0)) (by (with_reducible repeat (first|refine blk_drewN ?_ _|refine blk_drew ?_|refine blk_alloc ?_ _));exact BK146.out) hg (Kd.R_ne HO149.out BK146.out (by decide)));have n1_:=Aside0.mk (hb);have n2_:=Aside0.mk (ho);clear BK146;clear HB;clear HO149;have BK146:=n0_;have HB:=n1_;have HO152:=n2_;clear n0_ n1_ n2_;clear ho hb hg hat))
         go_roundg k1
         case measure => have := HK1.out; omega
         case rel=>exact ⟨(y150),(wrap64 (x10_1 + 1)),(by first | rfl|(simp;done)|(simp [*];done)),H',⟨by have:=HK1.out;omega⟩,⟨by (with_reducible repeat (first|apply Kd.R_alloc|apply Kd.R_drewN|apply Kd.R_drew));exact HO152.out⟩,⟨by (with_reducible repeat (first|refine blk_drewN ?_ _|refine blk_drew ?_|refine blk_alloc ?_ _));exact BK146.out⟩,⟨by repeat (first|(with_reducible first|exact HB.out|apply below_alloc|apply pw_below_drewN|apply below_drew1|refine below_set ?_ GE146.out)|exact HB.out)⟩⟩
        ·rw [if_neg c11] at H
         exact absurd H (by simp)
       ·rw [if_neg c10] at H
        have c10b0 : ((bt a0_0 x10_1) == 0) = false := beq_eq_false_iff_ne.mpr c10
        have c10b1 : ((bt a0_0 x10_1) != 0) = true := bne_iff_ne.mpr c10
        have H' := Aside0.mk H
        clear H
        have hcz16_0 : wr.cell? ⟨gb146, 0, none⟩ = some (.string a0_0) := (blk_cell BK146.out 0).trans rfl
        have hcz16_1 : wr.cell? ⟨gb146, 1, none⟩ = some (.int .i64 a0_1) := (blk_cell BK146.out 1).trans rfl
        have hcz16_2 : wr.cell? ⟨gb146, 2, none⟩ = some (.int .i64 a0_2) := (blk_cell BK146.out 2).trans rfl
        have hcz16_3 : wr.cell? ⟨gb146, 3, none⟩ = some (.string a0_3) := (blk_cell BK146.out 3).trans rfl
        have hcz16_4 : wr.cell? ⟨gb146, 4, none⟩ = some (.string a0_4) := (blk_cell BK146.out 4).trans rfl
        have hfz16_0 := blk_frozen BK146.out 0
        have hfz16_1 := blk_frozen BK146.out 1
        have hfz16_2 := blk_frozen BK146.out 2
        have hfz16_3 := blk_frozen BK146.out 3
        have hfz16_4 := blk_frozen BK146.out 4
        have p7 : 0 ≤ (x10_1 : Int) := of_decide_eq_true (by first|(with_reducible assumption) | assumption)
        have q7 : x10_1 < (a0_0.size : Int) := of_decide_eq_true (by first|(with_reducible assumption) | assumption)
        have hx7 := bt_at a0_0 x10_1
        replace p7 := eq_true p7
        replace q7 := eq_true q7
        go_wp2_with (first|((with_reducible refine gate_builtin (b:=.append) (xs:=#[.tmp 13,.tmp 18]) rfl ?_);at_builtin;refine Kd.R_append (Kd.int .u8) (w0:=w) w.heap.size rfl (.tmp 13) (.tmp 18) 43 5 (.int .u8 0) 1 rfl Try.underlying43 info5 rfl (by decide) (by omega) u3 x3_1 (bt a0_0 x10_1) [.int .u8 (bt a0_0 x10_1)] (fun _=>True) (fun _=>False) rfl rfl ?aP (fun _ hk=>hk.elim) ?aF ?aO ?aB ?aS ?aL ?_;(case aP=>exact rfl);(case aB=>exact (by repeat (first|(with_reducible first|exact HB.out|apply below_alloc|apply pw_below_drewN|apply below_drew1|refine below_set ?_ GE146.out)|exact HB.out)));(case aF=>exact (fun _ _=>trivial));(case aO=>exact (by (with_reducible repeat (first|apply Kd.R_alloc|apply Kd.R_drewN|apply Kd.R_drew));exact HO_3.out));(case aS=>exact (below_size (by repeat (first|(with_reducible first|exact HB.out|apply below_alloc|apply pw_below_drewN|apply below_drew1|refine below_set ?_ GE146.out)|exact HB.out))));(case aL=>have:=LMc8.out;omega);intro v148 w17 ho hb hg hat;rw [← Ny147.out] at ho;have n0_:=Aside0.mk (blk_grown (g:=gb146) (o:=.cells #[.string a0_0,.int .i64 a0_1,.int .i64 a0_2,.string a0_3,.string a0_4] 28 (0,0)) (by (with_reducible repeat (first|refine blk_drewN ?_ _|refine blk_drew ?_|refine blk_alloc ?_ _));exact BK146.out) hg (Kd.R_ne HO_3.out BK146.out (by decide)));have n1_:=Aside0.mk (hb);have n2_:=Aside0.mk (ho);clear BK146;clear HB;clear HO_3;have BK146:=n0_;have HB:=n1_;have HO149:=n2_;clear n0_ n1_ n2_;clear ho hb hg hat;have hcz18_0 : w17.cell? ⟨gb146,0,none⟩ = some (.string a0_0):=(blk_cell BK146.out 0).trans rfl;have hcz18_1 : w17.cell? ⟨gb146,1,none⟩ = some (.int .i64 a0_1):=(blk_cell BK146.out 1).trans rfl;have hcz18_2 : w17.cell? ⟨gb146,2,none⟩ = some (.int .i64 a0_2):=(blk_cell BK146.out 2).trans rfl;have hcz18_3 : w17.cell? ⟨gb146,3,none⟩ = some (.string a0_3):=(blk_cell BK146.out 3).trans rfl;have hcz18_4 : w17.cell? ⟨gb146,4,none⟩ = some (.string a0_4):=(blk_cell BK146.out 4).trans rfl;have hfz18_0:=blk_frozen BK146.out 0;have hfz18_1:=blk_frozen BK146.out 1;have hfz18_2:=blk_frozen BK146.out 2;have hfz18_3:=blk_frozen BK146.out 3;have hfz18_4:=blk_frozen BK146.out 4;have p9 : 0 ≤ (x10_1 : Int):=of_decide_eq_true (by first|(with_reducible assumption) | assumption);have q9 : x10_1 < (a0_0.size : Int):=of_decide_eq_true (by first|(with_reducible assumption) | assumption);have hx9:=bt_at a0_0 x10_1;replace p9:=eq_true p9;replace q9:=eq_true q9))
        go_roundg k1
        case measure => have := HK1.out; omega
        case rel=>exact ⟨(y147),(wrap64 (x10_1 + 1)),(by first | rfl|(simp;done)|(simp [*];done)),H',⟨by have:=HK1.out;omega⟩,⟨by (with_reducible repeat (first|apply Kd.R_alloc|apply Kd.R_drewN|apply Kd.R_drew));exact HO149.out⟩,⟨by (with_reducible repeat (first|refine blk_drewN ?_ _|refine blk_drew ?_|refine blk_alloc ?_ _));exact BK146.out⟩,⟨by repeat (first|(with_reducible first|exact HB.out|apply below_alloc|apply pw_below_drewN|apply below_drew1|refine below_set ?_ GE146.out)|exact HB.out)⟩⟩
      ·rw [if_neg c8] at H
       exact absurd H (by simp)
     ·rw [if_neg c6] at H
      exact absurd H (by simp)
    ·rw [if_neg c5] at H
     exact absurd H (by simp)
   ·rw [if_neg c4] at H
    have c4b0 : decide (x10_1 < (a0_0.size : Int)) = false := decide_eq_false c4
    clear c4
    obtain ⟨y153, hy153⟩ : ∃ y_ : List Int, y_ = (([0, 0] : List Int)) := ⟨_, rfl⟩
    replace H : (if x3_1.length + y153.length < 140737488355328 then (table_key.l1 k1 (x3_1 ++ y153) (IntKind.u64.wrap (wrap64 (4611686018427387904 - a0_1))) 7 a0_0 a0_1 a0_2 a0_3 a0_4) else (none)) = some r:=by first|(rw [hy153];with_reducible exact H)|(have H2_:=(Option.bind_some _ _).symm.trans H;rw [hy153];with_reducible exact H2_)|(have H2_:=(Option.bind_some _ _).symm.trans H;with_reducible exact H2_) | with_reducible exact H|(rw [hy153];exact H)|exact H
    have Ny153 := Aside0.mk hy153
    clear hy153
    by_cases c19 : x3_1.length + y153.length < 140737488355328
    ·rw [if_pos c19] at H
     have LMc19 := Aside0.mk c19
     clear c19
     obtain ⟨y156, hy156⟩ : ∃ y_ : List Int, y_ = (x3_1 ++ y153) := ⟨_, rfl⟩
     replace H : (table_key.l1 k1 y156 (IntKind.u64.wrap (wrap64 (4611686018427387904 - a0_1))) 7 a0_0 a0_1 a0_2 a0_3 a0_4) = some r:=by first|(rw [hy156];with_reducible exact H)|(have H2_:=(Option.bind_some _ _).symm.trans H;rw [hy156];with_reducible exact H2_)|(have H2_:=(Option.bind_some _ _).symm.trans H;with_reducible exact H2_) | with_reducible exact H|(rw [hy156];exact H)|exact H
     have Ny156 := Aside0.mk hy156
     clear hy156
     have H' := Aside0.mk H
     clear H
     go_wp2_with (first|((with_reducible refine gate_dst (N:=30) rfl ?_);refine Kd.R_lit (Kd.int .u8) _ 5 ?hg (N:=30) ?hd (xs:=([0,0] : List Int)) (inner:=[.int .u8 0,.int .u8 0]) (ok:=fun _=>True) (okp:=fun _=>True) ?hr ?hp (fun _ hk=>hk) trivial (Below.refl _ _) (Nat.le_refl _) (by simp) ?_;(case hd=>rfl);(case hg=>rfl);(case hr=>first|(go_simp;done)|(go_simp;rfl));(case hp=>exact (Reps.one (show Kd.M (Kd.int .u8) _ _ _ 0 [.int .u8 0] from rfl) (Reps.one (show Kd.M (Kd.int .u8) _ _ _ 0 [.int .u8 0] from rfl) (Reps.none _ _))));intro v154 w20 ho21 hb hg_ hnew_;clear hg_ hnew_;(first | rw [← Ny153.out] at ho21|(simp only [Int.reduceToNat] at ho21;rw [← Ny153.out] at ho21));have n0_:=Aside0.mk (Kd.R_elder' (by (with_reducible repeat (first|apply Kd.R_alloc|apply Kd.R_drewN|apply Kd.R_drew));exact HO_3.out) (Kd.R_base ho21) hb);have n1_:=Aside0.mk (Kd.R_lower (Kd.R_new' ho21 (Kd.R_lt (by (with_reducible repeat (first|apply Kd.R_alloc|apply Kd.R_drewN|apply Kd.R_drew));exact HO_3.out))) (below_size (by repeat (first|(with_reducible first|exact HB.out|apply below_alloc|apply pw_below_drewN|apply below_drew1|refine below_set ?_ GE146.out)|exact HB.out))));have n2_:=Aside0.mk (blk_below (g:=gb146) (o:=.cells #[.string a0_0,.int .i64 a0_1,.int .i64 a0_2,.string a0_3,.string a0_4] 28 (0,0)) (by (with_reducible repeat (first|refine blk_drewN ?_ _|refine blk_drew ?_|refine blk_alloc ?_ _));exact BK146.out) hb);have n3_:=Aside0.mk (below_step (by repeat (first|(with_reducible first|exact HB.out|apply below_alloc|apply pw_below_drewN|apply below_drew1|refine below_set ?_ GE146.out)|exact HB.out)) hb);clear HO_3;clear BK146;clear HB;have HO_3:=n0_;have HO155:=n1_;have BK146:=n2_;have HB:=n3_;clear n0_ n1_ n2_ n3_;clear hb ho21;obtain ⟨Ao23,co23,eo23⟩:=Kd.R_slice HO155.out;subst eo23)|((with_reducible refine gate_builtin (b:=.append) (xs:=#[.tmp 29,.tmp 30]) rfl ?_);at_builtin;refine Kd.R_append_rows (Kd.int .u8) (w0:=w) w.heap.size rfl (.tmp 29) (.tmp 30) 43 5 (.int .u8 0) 1 rfl Try.underlying43 info5 rfl (by decide) (by omega) u3 x3_1 y153 _ _ _ (fun k_=>some k_ ≠ (.slice Ao23 y153.length co23 : Value).ownBlock) (fun _=>False) rfl rfl ?aO ?aR (fun _ _ h=>h) (fun _ h=>h.elim) ?aF ?aB ?aS ?aL ?_;(case aR=>repeat (first|exact (Kd.R_reads' HO155.out).2.2|(with_reducible refine Kd.C_alloc ?_ _)|(with_reducible refine Kd.C_drewN ?_ _)|(with_reducible refine Kd.C_drew ?_)));(case aB=>exact (by repeat (first|(with_reducible first|exact HB.out|apply below_alloc|apply pw_below_drewN|apply below_drew1|refine below_set ?_ GE146.out)|exact HB.out)));(case aF=>exact (fun k_ hk=>Kd.fresh' (Kd.R_lt (by (with_reducible repeat (first|apply Kd.R_alloc|apply Kd.R_drewN|apply Kd.R_drew));exact HO155.out)) k_ hk));(case aO=>exact (by (with_reducible repeat (first|apply Kd.R_alloc|apply Kd.R_drewN|apply Kd.R_drew));exact Kd.R_mono HO_3.out (fun _ hk=>hk.2)));(case aS=>exact (below_size (by repeat (first|(with_reducible first|exact HB.out|apply below_alloc|apply pw_below_drewN|apply below_drew1|refine below_set ?_ GE146.out)|exact HB.out))));(case aL=>have:=LMc19.out;omega);intro v157 w22 ho hb hg hat;rw [← Ny156.out] at ho;have n0_:=Aside0.mk (blk_grown (g:=gb146) (o:=.cells #[.string a0_0,.int .i64 a0_1,.int .i64 a0_2,.string a0_3,.string a0_4] 28 (0,0)) (by (with_reducible repeat (first|refine blk_drewN ?_ _|refine blk_drew ?_|refine blk_alloc ?_ _));exact BK146.out) hg (Kd.R_ne HO_3.out BK146.out (by decide)));have n1_:=Aside0.mk (Kd.R_after (ok:=(fun _=>True)) (by (with_reducible repeat (first|apply Kd.R_alloc|apply Kd.R_drewN|apply Kd.R_drew));exact HO155.out) hg hat);have n2_:=Aside0.mk (hb);have n3_:=Aside0.mk (ho);clear BK146;clear HO155;clear HB;clear HO_3;have BK146:=n0_;have HO155:=n1_;have HB:=n2_;have HO158:=n3_;clear n0_ n1_ n2_ n3_;clear ho hb hg hat;have hcz24_0 : w22.cell? ⟨gb146,0,none⟩ = some (.string a0_0):=(blk_cell BK146.out 0).trans rfl;have hcz24_1 : w22.cell? ⟨gb146,1,none⟩ = some (.int .i64 a0_1):=(blk_cell BK146.out 1).trans rfl;have hcz24_2 : w22.cell? ⟨gb146,2,none⟩ = some (.int .i64 a0_2):=(blk_cell BK146.out 2).trans rfl;have hcz24_3 : w22.cell? ⟨gb146,3,none⟩ = some (.string a0_3):=(blk_cell BK146.out 3).trans rfl;have hcz24_4 : w22.cell? ⟨gb146,4,none⟩ = some (.string a0_4):=(blk_cell BK146.out 4).trans rfl;have hfz24_0:=blk_frozen BK146.out 0;have hfz24_1:=blk_frozen BK146.out 1;have hfz24_2:=blk_frozen BK146.out 2;have hfz24_3:=blk_frozen BK146.out 3;have hfz24_4:=blk_frozen BK146.out 4))
     go_loopg [3,6] k1 (fun kq v3 v6 w'=>∃ (x3_2 : List Int) (x6_2 : Int),v6 = .int .i64 x6_2∧Aside0 (table_key.l1 kq x3_2 (IntKind.u64.wrap (wrap64 (4611686018427387904 - a0_1))) x6_2 a0_0 a0_1 a0_2 a0_3 a0_4 = some r)∧Aside0 (kq ≤ k1)∧Aside0 (Kd.R (Kd.int .u8) 5 w' w.heap.size (fun _=>True) v3 x3_2)∧Aside0 (w'.heap[gb146]? = some (.cells #[.string a0_0,.int .i64 a0_1,.int .i64 a0_2,.string a0_3,.string a0_4] 28 (0,0)))∧Aside0 (Below w.heap.size w w'))
     case atStart=>exact ⟨(y156),(7),(by first | rfl|(simp;done)|(simp [*];done)),H',⟨Nat.le_refl _⟩,⟨by (with_reducible repeat (first|apply Kd.R_alloc|apply Kd.R_drewN|apply Kd.R_drew));exact Kd.R_mono HO158.out (fun _ hk=>trivial)⟩,⟨by (with_reducible repeat (first|refine blk_drewN ?_ _|refine blk_drew ?_|refine blk_alloc ?_ _));exact BK146.out⟩,⟨by repeat (first|(with_reducible first|exact HB.out|apply below_alloc|apply pw_below_drewN|apply below_drew1|refine below_set ?_ GE146.out)|exact HB.out)⟩⟩
     case round =>
      clear H'
      try clear c1
      try clear p2
      try clear c4
      try clear c4b0
      try clear c5
      try clear c5b0
      try clear c6
      try clear c6b0
      try clear p6
      try clear p7
      try clear q7
      try clear hx7
      try clear c8
      try clear p9
      try clear q9
      try clear hx9
      try clear c10
      try clear c10b0
      try clear c10b1
      try clear c11
      try clear c19
      try clear hcz12_0
      try clear hcz12_1
      try clear hcz12_2
      try clear hcz12_3
      try clear hcz12_4
      try clear hcz14_0
      try clear hcz14_1
      try clear hcz14_2
      try clear hcz14_3
      try clear hcz14_4
      try clear hcz16_0
      try clear hcz16_1
      try clear hcz16_2
      try clear hcz16_3
      try clear hcz16_4
      try clear hcz18_0
      try clear hcz18_1
      try clear hcz18_2
      try clear hcz18_3
      try clear hcz18_4
      try clear hcz24_0
      try clear hcz24_1
      try clear hcz24_2
      try clear hcz24_3
      try clear hcz24_4
      try clear hcz3_0
      try clear hcz3_1
      try clear hcz3_2
      try clear hcz3_3
      try clear hcz3_4
      try clear hfz12_0
      try clear hfz12_1
      try clear hfz12_2
      try clear hfz12_3
      try clear hfz12_4
      try clear hfz14_0
      try clear hfz14_1
      try clear hfz14_2
      try clear hfz14_3
      try clear hfz14_4
      try clear hfz16_0
      try clear hfz16_1
      try clear hfz16_2
      try clear hfz16_3
      try clear hfz16_4
      try clear hfz18_0
      try clear hfz18_1
      try clear hfz18_2
      try clear hfz18_3
      try clear hfz18_4
      try clear hfz24_0
      try clear hfz24_1
      try clear hfz24_2
      try clear hfz24_3
      try clear hfz24_4
      try clear hfz3_0
      try clear hfz3_1
      try clear hfz3_2
      try clear hfz3_3
      try clear hfz3_4
      try clear p2
      try clear p7
      try clear p9
      try clear q7
      try clear q9
      obtain ⟨x3_2, x6_2, rfl, HA, HK2, HO_3, BK146, HB⟩ := hrel
      cases gk with
      | zero => exact absurd HA.out (by simp [table_key.l1])
      | succ k2 =>
       have H := HA.out
       clear HA
       simp only [table_key.l1] at H
       by_cases c25 : x6_2 ≥ 0
       ·rw [if_pos c25] at H
        have c25b0 : decide (0 ≤ x6_2) = true := decide_eq_true c25
        clear c25
        obtain ⟨ji26, hji26⟩ : ∃ j_ : Int, (wrap64 (8 * x6_2)) = j_ := ⟨_, rfl⟩
        replace H : (if 0 ≤ (ji26) then (if x3_2.length < 140737488355328 then (table_key.l1 k2 (x3_2 ++ [(shr .u64 (IntKind.u64.wrap (wrap64 (4611686018427387904 - a0_1))) (ji26)) % 256]) (IntKind.u64.wrap (wrap64 (4611686018427387904 - a0_1))) (wrap64 (x6_2 - 1)) a0_0 a0_1 a0_2 a0_3 a0_4) else (none)) else (none)) = some r:=by first|(rw [hji26] at H;exact H)|(simp only [hji26] at H ⊢;exact H)
        have hji26w : (IntKind.i64.wrap (8 * x6_2)) = ji26 := (i64_w _).trans hji26
        by_cases c27 : 0 ≤ (ji26)
        ·rw [if_pos c27] at H
         have c27b0 := eq_true c27
         have c27b1 : decide (0 ≤ (ji26)) = true := decide_eq_true c27
         clear c27
         obtain ⟨ji28,hji28⟩ : ∃ j_ : Int,(shr .u64 (IntKind.u64.wrap (wrap64 (4611686018427387904 - a0_1))) (ji26)) = j_:=⟨_,rfl⟩
         replace H : (if x3_2.length < 140737488355328 then (table_key.l1 k2 (x3_2 ++ [(ji28) % 256]) (IntKind.u64.wrap (wrap64 (4611686018427387904 - a0_1))) (wrap64 (x6_2 - 1)) a0_0 a0_1 a0_2 a0_3 a0_4) else (none)) = some r:=by first|(rw [hji28] at H;exact H)|(simp only [hji28] at H ⊢;exact H)
         have hji28_ : ((IntKind.u64.wrap (wrap64 (4611686018427387904 - a0_1))) / 2 ^ min (ji26).toNat 64) = ji28:=hji28
         have hji28z : (ji26) ≤ 64 → ((IntKind.u64.wrap (wrap64 (4611686018427387904 - a0_1))) / 2 ^ (ji26).toNat) = ji28:=shr_small hji28
         by_cases c29 : x3_2.length < 140737488355328
         ·rw [if_pos c29] at H
          have LMc29 := Aside0.mk c29
          clear c29
          obtain ⟨y159, hy159⟩ : ∃ y_ : List Int, y_ = (x3_2 ++ [(ji28) % 256]) := ⟨_, rfl⟩
          replace H : (table_key.l1 k2 y159 (IntKind.u64.wrap (wrap64 (4611686018427387904 - a0_1))) (wrap64 (x6_2 - 1)) a0_0 a0_1 a0_2 a0_3 a0_4) = some r:=by first|(rw [hy159];with_reducible exact H)|(have H2_:=(Option.bind_some _ _).symm.trans H;rw [hy159];with_reducible exact H2_)|(have H2_:=(Option.bind_some _ _).symm.trans H;with_reducible exact H2_) | with_reducible exact H|(rw [hy159];exact H)|exact H
          have Ny159 := Aside0.mk hy159
          clear hy159
          have H' := Aside0.mk H
          clear H
          go_wp2_with (first|((with_reducible refine gate_builtin (b:=.append) (xs:=#[.tmp 40,.tmp 46]) rfl ?_);at_builtin;refine Kd.R_append (Kd.int .u8) (w0:=w) w.heap.size rfl (.tmp 40) (.tmp 46) 43 5 (.int .u8 0) 1 rfl Try.underlying43 info5 rfl (by decide) (by omega) u3 x3_2 ((ji28) % 256) [.int .u8 ((ji28) % 256)] (fun _=>True) (fun _=>False) rfl rfl ?aP (fun _ hk=>hk.elim) ?aF ?aO ?aB ?aS ?aL ?_;(case aP=>exact rfl);(case aB=>exact (by repeat (first|(with_reducible first|exact HB.out|apply below_alloc|apply pw_below_drewN|apply below_drew1|refine below_set ?_ GE146.out)|exact HB.out)));(case aF=>exact (fun _ _=>trivial));(case aO=>exact (by (with_reducible repeat (first|apply Kd.R_alloc|apply Kd.R_drewN|apply Kd.R_drew));exact HO_3.out));(case aS=>exact (below_size (by repeat (first|(with_reducible first|exact HB.out|apply below_alloc|apply pw_below_drewN|apply below_drew1|refine below_set ?_ GE146.out)|exact HB.out))));(case aL=>have:=LMc29.out;omega);intro v160 w30 ho hb hg hat;rw [← Ny159.out] at ho;have n0_:=Aside0.mk (blk_grown (g:=gb146) (o:=.cells #[.string a0_0,.int .i64 a0_1,.int .i64 a0_2,.string a0_3,.string a0_4] 28 (0,0)) (by (with_reducible repeat (first|refine blk_drewN ?_ _|refine blk_drew ?_|refine blk_alloc ?_ _));exact BK146.out) hg (Kd.R_ne HO_3.out BK146.out (by decide)));have n1_:=Aside0.mk (hb);have n2_:=Aside0.mk (ho);clear BK146;clear HB;clear HO_3;have BK146:=n0_;have HB:=n1_;have HO161:=n2_;clear n0_ n1_ n2_;clear ho hb hg hat))
          go_roundg k2
          case measure => have := HK1.out; have := HK2.out; omega
          case rel=>exact ⟨(y159),(wrap64 (x6_2 - 1)),(by first | rfl|(simp;done)|(simp [*];done)),H',⟨by have:=HK1.out;have:=HK2.out;omega⟩,⟨by (with_reducible repeat (first|apply Kd.R_alloc|apply Kd.R_drewN|apply Kd.R_drew));exact HO161.out⟩,⟨by (with_reducible repeat (first|refine blk_drewN ?_ _|refine blk_drew ?_|refine blk_alloc ?_ _));exact BK146.out⟩,⟨by repeat (first|(with_reducible first|exact HB.out|apply below_alloc|apply pw_below_drewN|apply below_drew1|refine below_set ?_ GE146.out)|exact HB.out)⟩⟩
         ·rw [if_neg c29] at H
          exact absurd H (by simp)
        ·rw [if_neg c27] at H
         exact absurd H (by simp)
       ·rw [if_neg c25] at H
        have c25b0 : decide (0 ≤ x6_2) = false := decide_eq_false c25
        clear c25
        by_cases c31 : x3_2.length < 140737488355328
        ·rw [if_pos c31] at H
         have LMc31 := Aside0.mk c31
         clear c31
         obtain ⟨y162, hy162⟩ : ∃ y_ : List Int, y_ = (x3_2 ++ [(wrap64 (1 - a0_2)) % 256]) := ⟨_, rfl⟩
         replace H : (some (strOfNums y162)) = some r:=by first|(rw [hy162];with_reducible exact H)|(have H2_:=(Option.bind_some _ _).symm.trans H;rw [hy162];with_reducible exact H2_)|(have H2_:=(Option.bind_some _ _).symm.trans H;with_reducible exact H2_) | with_reducible exact H|(rw [hy162];exact H)|exact H
         have Ny162 := Aside0.mk hy162
         clear hy162
         obtain rfl := Option.some.inj H
         simp only [Option.some.injEq, Prod.mk.injEq] at H
         obtain ⟨rfl⟩ := H
         have hcz32_0 : wr.cell? ⟨gb146, 0, none⟩ = some (.string a0_0) := (blk_cell BK146.out 0).trans rfl
         have hcz32_1 : wr.cell? ⟨gb146, 1, none⟩ = some (.int .i64 a0_1) := (blk_cell BK146.out 1).trans rfl
         have hcz32_2 : wr.cell? ⟨gb146, 2, none⟩ = some (.int .i64 a0_2) := (blk_cell BK146.out 2).trans rfl
         have hcz32_3 : wr.cell? ⟨gb146, 3, none⟩ = some (.string a0_3) := (blk_cell BK146.out 3).trans rfl
         have hcz32_4 : wr.cell? ⟨gb146, 4, none⟩ = some (.string a0_4) := (blk_cell BK146.out 4).trans rfl
         have hfz32_0 := blk_frozen BK146.out 0
         have hfz32_1 := blk_frozen BK146.out 1
         have hfz32_2 := blk_frozen BK146.out 2
         have hfz32_3 := blk_frozen BK146.out 3
         have hfz32_4 := blk_frozen BK146.out 4
         go_wp2_with (first|((with_reducible refine gate_builtin (b:=.append) (xs:=#[.tmp 48,.tmp 53]) rfl ?_);at_builtin;refine Kd.R_append (Kd.int .u8) (w0:=w) w.heap.size rfl (.tmp 48) (.tmp 53) 43 5 (.int .u8 0) 1 rfl Try.underlying43 info5 rfl (by decide) (by omega) u3 x3_2 ((wrap64 (1 - a0_2)) % 256) [.int .u8 ((wrap64 (1 - a0_2)) % 256)] (fun _=>True) (fun _=>False) rfl rfl ?aP (fun _ hk=>hk.elim) ?aF ?aO ?aB ?aS ?aL ?_;(case aP=>exact rfl);(case aB=>exact (by repeat (first|(with_reducible first|exact HB.out|apply below_alloc|apply pw_below_drewN|apply below_drew1|refine below_set ?_ GE146.out)|exact HB.out)));(case aF=>exact (fun _ _=>trivial));(case aO=>exact (by (with_reducible repeat (first|apply Kd.R_alloc|apply Kd.R_drewN|apply Kd.R_drew));exact HO_3.out));(case aS=>exact (below_size (by repeat (first|(with_reducible first|exact HB.out|apply below_alloc|apply pw_below_drewN|apply below_drew1|refine below_set ?_ GE146.out)|exact HB.out))));(case aL=>have:=LMc31.out;omega);intro v163 w33 ho hb hg hat;rw [← Ny162.out] at ho;have n0_:=Aside0.mk (blk_grown (g:=gb146) (o:=.cells #[.string a0_0,.int .i64 a0_1,.int .i64 a0_2,.string a0_3,.string a0_4] 28 (0,0)) (by (with_reducible repeat (first|refine blk_drewN ?_ _|refine blk_drew ?_|refine blk_alloc ?_ _));exact BK146.out) hg (Kd.R_ne HO_3.out BK146.out (by decide)));have n1_:=Aside0.mk (hb);have n2_:=Aside0.mk (ho);clear BK146;clear HB;clear HO_3;have BK146:=n0_;have HB:=n1_;have HO164:=n2_;clear n0_ n1_ n2_;clear ho hb hg hat;have hcv34:=own_string (P:=Try.prog) Try.underlying43 Try.underlying5 Try.underlying9 (Kd.own_of_R HO164.out);(try have hcv35:=fun n_=>own_string (P:=Try.prog) Try.underlying43 Try.underlying5 Try.underlying9 (Kd.own_of_R (Kd.R_drewN HO164.out n_)))))
         go_ret
         exact ⟨by first | rfl|(simp [errW_none,errW_some] <;> rfl)|(simp [*,errW_none,errW_some] <;> rfl),by repeat (first|(with_reducible first|exact HB.out|apply below_alloc|apply pw_below_drewN|apply below_drew1|refine below_set ?_ GE146.out)|exact HB.out)⟩
        ·rw [if_neg c31] at H
         exact absurd H (by simp)
    ·rw [if_neg c19] at H
     exact absurd H (by simp)

/-! ### varint_Text: function 47 -/
def varint_Text.f (k : Nat) (a0 : ByteArray) : Option (List Int):=(varint_Put.f k (IntKind.u64.wrap ((a0.size : Int)))).bind fun t165=>(if t165.length + a0.size < 140737488355328 then (some (t165 ++ bytesOf a0)) else (none))
theorem varint_Text.mono : ∀ a0 k, LeO (varint_Text.f k a0) (varint_Text.f (k + 1) a0) := by
 intro a0 k
 unfold varint_Text.f
 repeat' first
  |(with_reducible exact varint_Put.mono _ _)
  |(with_reducible exact LeO.refl _)
  |(with_reducible exact LeO.none _)
  |(with_reducible refine LeO.ite ?_ ?_)
  |(with_reducible refine LeO.bind ?_ (fun _ => ?_))
  |exact varint_Put.mono _ _
  |exact LeO.none _
  |refine LeO.ite ?_ ?_
  |refine LeO.bind ?_ (fun _ => ?_)
set_option maxHeartbeats 80000000 in
set_option maxRecDepth 100000 in
theorem varint_Text.calls (k : Nat) (a0 : ByteArray) (r : List Int) (w : World) (h : varint_Text.f k a0 = some r) :
  Calls Try.prog 47 #[.string a0] w fun e w'=>∃ v0_ : Value,e = .returned (v0_)∧Kd.R (Kd.int .u8) 5 w' w.heap.size (fun _=>True) v0_ r∧Below w.heap.size w w':=by
 have HB := Aside0.mk (Below.refl w.heap.size w)
 have H : ((varint_Put.f k (IntKind.u64.wrap ((a0.size : Int)))).bind fun t165=>(if t165.length + a0.size < 140737488355328 then (some (t165 ++ bytesOf a0)) else (none))) = some r:=h
 clear h
 replace H := Option.bind_eq_some_iff.mp H
 obtain ⟨t165, A20, H⟩ := H
 replace H : (if t165.length + a0.size < 140737488355328 then (some (t165 ++ bytesOf a0)) else (none)) = some r := H
 have A2 := Aside0.mk A20
 clear A20
 by_cases c3 : t165.length + a0.size < 140737488355328
 ·rw [if_pos c3] at H
  have LMc3 := Aside0.mk c3
  clear c3
  obtain ⟨y168, hy168⟩ : ∃ y_ : List Int, y_ = (t165 ++ bytesOf a0) := ⟨_, rfl⟩
  replace H : (some y168) = some r:=by first|(rw [hy168];with_reducible exact H)|(have H2_:=(Option.bind_some _ _).symm.trans H;rw [hy168];with_reducible exact H2_)|(have H2_:=(Option.bind_some _ _).symm.trans H;with_reducible exact H2_) | with_reducible exact H|(rw [hy168];exact H)|exact H
  have Ny168 := Aside0.mk hy168
  clear hy168
  obtain rfl := Option.some.inj H
  simp only [Option.some.injEq, Prod.mk.injEq] at H
  obtain ⟨rfl⟩ := H
  go_enter Try.func47, Try.ntmps47
  go_wp2_with (first|((with_reducible refine gate_callee (f:=44) rfl ?_);refine goesL_ (some 6) rfl rfl Try.func44 (by kernel_rfl) rfl #[.int .u64 (IntKind.u64.wrap ((a0.size : Int)))] rfl (by (try simp only [List.map_toArray,List.map_cons,List.map_nil]);first | done | rfl|(simp only [List.length_drop,List.length_take];rfl)) ?_;(with_reducible refine (varint_Put.calls k (IntKind.u64.wrap ((a0.size : Int))) t165 _ A2.out).mono ?_);rintro e w4 ⟨v166,rfl,ho0,hb⟩;refine ⟨_,rfl,?_⟩;have n0_:=Aside0.mk (Kd.R_lower ho0 (below_size (by repeat (first|(with_reducible first|exact HB.out|apply below_alloc|apply pw_below_drewN|apply below_drew1)|exact HB.out))));have n1_:=Aside0.mk (below_step (by repeat (first|(with_reducible first|exact HB.out|apply below_alloc|apply pw_below_drewN|apply below_drew1)|exact HB.out)) hb);clear HB;have HO167:=n0_;have HB:=n1_;clear n0_ n1_;(try clear hb);(try clear hb2);(try clear hk);(try clear hi);(try clear ho0))|(at_builtin;refine print_append_str (w0:=w) w.heap.size rfl (.tmp 6) _ 43 9 5 rfl Try.underlying43 Try.underlying9 info5 v166 t165 a0 rfl rfl ?aO ?aB ?aS ?aL ?_;(case aB=>exact (by repeat (first|(with_reducible first|exact HB.out|apply below_alloc|apply pw_below_drewN|apply below_drew1)|exact HB.out)));(case aO=>exact (Kd.own_of_R (by (with_reducible repeat (first|apply Kd.R_alloc|apply Kd.R_drewN|apply Kd.R_drew));exact HO167.out)));(case aS=>exact (below_size (by repeat (first|(with_reducible first|exact HB.out|apply below_alloc|apply pw_below_drewN|apply below_drew1)|exact HB.out))));(case aL=>have:=LMc3.out;omega);intro v169 w5 ho0 hb hg;have ho:=Kd.R_of_own (h1:=fun _=>rfl) (ok:=fun _=>True) ho0 (fun _ _=>trivial);clear ho0;have hat:=True.intro;rw [← Ny168.out] at ho;change Kd.R (Kd.int .u8) 5 w5 w.heap.size (fun _=>True) v169 y168 at ho;have n0_:=Aside0.mk (hb);have n1_:=Aside0.mk (ho);clear HB;clear HO167;have HB:=n0_;have HO170:=n1_;clear n0_ n1_;clear ho hb hg hat))
  go_ret
  exact ⟨_,by first | rfl|(simp [errW_none,errW_some] <;> rfl)|(simp [*,errW_none,errW_some] <;> rfl),by (with_reducible repeat (first|apply Kd.R_alloc|apply Kd.R_drewN|apply Kd.R_drew));exact HO170.out,by repeat (first|(with_reducible first|exact HB.out|apply below_alloc|apply pw_below_drewN|apply below_drew1)|exact HB.out)⟩
 ·rw [if_neg c3] at H
  exact absurd H (by simp)

-- NOT PRINTED: function 48 (block_Builder_Size)

end Go.Proofs.Ytenmljkddhonmaa.MTbl

-- Written by a program of this session for this claim (out of the translation's print); Lean checks it.
namespace Go.Proofs.Ytenmljkddhonmaa.MTbl
open Go.RowKit Go.Proofs.YtenmljkddhonmaaW.PrintWords Go.Proofs.YtenmljkddhonmaaW.PrintLast Go.Proofs.YtenmljkddhonmaaW.PrintMore
attribute [local go_sem] max2_int min2_int max_two min_two max_three min_three max_four min_four   -- for this text's walks alone
set_option linter.unusedVariables false
set_option linter.unusedSimpArgs false

/-! ### ckey_Hash: function 83 -/
def ckey_Hash.l0 : Nat → ByteArray → Int → Int → Int → Option (Int)
 | 0, _, _, _, _ => none
 | k + 1,x0,x3,x6,x7=>if x7 < x6 then (if 0 ≤ x7 then (if x7 < (x0.size : Int) then (ckey_Hash.l0 k x0 (IntKind.u64.wrap ((Go.bits .xor .u64 x3 (IntKind.u64.wrap (bt x0 x7))) * 1099511628211)) x6 (wrap64 (x7 + 1))) else (none)) else (none)) else (some x3)
def ckey_Hash.f (k : Nat) (a0 : ByteArray) : Option (Int) := ckey_Hash.l0 k a0 14695981039346656037 (a0.size : Int) 0
theorem ckey_Hash.mono_l : ∀ k, (∀ y0 y1 y2 y3, LeO (ckey_Hash.l0 k y0 y1 y2 y3) (ckey_Hash.l0 (k + 1) y0 y1 y2 y3))
 | 0 => fun _ _ _ _ r h => by simp [ckey_Hash.l0] at h
 | k + 1 => by
  have ih0 := ckey_Hash.mono_l k
  ·intro y0 y1 y2 y3
   unfold ckey_Hash.l0
   repeat' first
  |(with_reducible exact ih0 _ _ _ _)
  |(with_reducible exact LeO.refl _)
  |(with_reducible exact LeO.none _)
  |(with_reducible refine LeO.ite ?_ ?_)
  |(with_reducible refine LeO.bind ?_ (fun _ => ?_))
  |exact ih0 _ _ _ _
  |exact LeO.none _
  |refine LeO.ite ?_ ?_
  |refine LeO.bind ?_ (fun _ => ?_)
theorem ckey_Hash.mono : ∀ a0 k, LeO (ckey_Hash.f k a0) (ckey_Hash.f (k + 1) a0) := by
 intro a0 k
 have ih0 := ckey_Hash.mono_l k
 unfold ckey_Hash.f
 repeat' first
  |(with_reducible exact ih0 _ _ _ _)
  |(with_reducible exact LeO.refl _)
  |(with_reducible exact LeO.none _)
  |(with_reducible refine LeO.ite ?_ ?_)
  |(with_reducible refine LeO.bind ?_ (fun _ => ?_))
  |exact ih0 _ _ _ _
  |exact LeO.none _
  |refine LeO.ite ?_ ?_
  |refine LeO.bind ?_ (fun _ => ?_)
set_option maxHeartbeats 80000000 in
set_option maxRecDepth 100000 in
theorem ckey_Hash.calls (k : Nat) (a0 : ByteArray) (r : Int) (w : World) (h : ckey_Hash.f k a0 = some r) :
  Calls Try.prog 83 #[.string a0] w fun e w' => e = .returned (.int .u64 r) ∧ Drawn0 w w' := by
 have H : (ckey_Hash.l0 k a0 14695981039346656037 (a0.size : Int) 0) = some r := h
 clear h
 have H' := Aside0.mk H
 clear H
 go_enter Try.func83, Try.ntmps83
 go_wp2
 go_loopg [3,7] k (fun kq v3 v7 w'=>∃ (x3_1 : Int) (x7_1 : Int),v3 = .int .u64 x3_1∧v7 = .int .i64 x7_1∧Aside0 (ckey_Hash.l0 kq a0 x3_1 (a0.size : Int) x7_1 = some r)∧Aside0 (kq ≤ k)∧Drawn0 w w')
 case atStart=>exact ⟨(14695981039346656037),(0),(by first | rfl|(simp;done)|(simp [*];done)),(by first | rfl|(simp;done)|(simp [*];done)),H',⟨Nat.le_refl _⟩,by repeat (first|exact Drawn0.refl _|apply Drawn0.step)⟩
 case round =>
  clear H'
  obtain ⟨x3_1, x7_1, rfl, rfl, HA, HK1, ⟨m1, rfl⟩⟩ := hrel
  cases gk with
  | zero => exact absurd HA.out (by simp [ckey_Hash.l0])
  | succ k1 =>
   have H := HA.out
   clear HA
   simp only [ckey_Hash.l0] at H
   by_cases c2 : x7_1 < (a0.size : Int)
   ·rw [if_pos c2] at H
    have c2b0 : decide (x7_1 < (a0.size : Int)) = true := decide_eq_true c2
    clear c2
    by_cases c3 : 0 ≤ x7_1
    ·rw [if_pos c3] at H
     have c3b0 : decide (0 ≤ x7_1) = true := decide_eq_true c3
     clear c3
     by_cases c4 : x7_1 < (a0.size : Int)
     ·rw [if_pos c4] at H
      have c4b0 : decide (x7_1 < (a0.size : Int)) = true := decide_eq_true c4
      clear c4
      have H' := Aside0.mk H
      clear H
      have p5 : 0 ≤ (x7_1 : Int) := of_decide_eq_true (by first|(with_reducible assumption) | assumption)
      have q5 : x7_1 < (a0.size : Int) := of_decide_eq_true (by first|(with_reducible assumption) | assumption)
      have hx5 := bt_at a0 x7_1
      replace p5 := eq_true p5
      replace q5 := eq_true q5
      go_wp2
      go_roundg k1
      case measure => have := HK1.out; omega
      case rel=>exact ⟨(IntKind.u64.wrap ((Go.bits .xor .u64 x3_1 (IntKind.u64.wrap (bt a0 x7_1))) * 1099511628211)),(wrap64 (x7_1 + 1)),(by first | rfl|(simp;done)|(simp [*];done)),(by first | rfl|(simp;done)|(simp [*];done)),H',⟨by have:=HK1.out;omega⟩,by repeat (first|exact Drawn0.refl _|apply Drawn0.step)⟩
     ·rw [if_neg c4] at H
      exact absurd H (by simp)
    ·rw [if_neg c3] at H
     exact absurd H (by simp)
   ·rw [if_neg c2] at H
    have c2b0 : decide (x7_1 < (a0.size : Int)) = false := decide_eq_false c2
    clear c2
    obtain rfl := Option.some.inj H
    simp only [Option.some.injEq, Prod.mk.injEq] at H
    obtain ⟨rfl⟩ := H
    go_wp2
    go_ret
    exact ⟨by first | rfl|(simp; done)|(simp [*]; done), by repeat (first|exact Drawn0.refl _|apply Drawn0.step)⟩

/-! ### bits_RotateLeft64: function 84 -/
def bits_RotateLeft64.f (a0 : Int) (a1 : Int) : Option (Int):=if 0 ≤ (Go.bits .and .u64 (IntKind.u64.wrap (a1)) 63) then (if 0 ≤ (IntKind.u64.wrap (64 - (Go.bits .and .u64 (IntKind.u64.wrap (a1)) 63))) then (some (Go.bits .or .u64 (shl .u64 a0 (Go.bits .and .u64 (IntKind.u64.wrap (a1)) 63)) (shr .u64 a0 (IntKind.u64.wrap (64 - (Go.bits .and .u64 (IntKind.u64.wrap (a1)) 63)))))) else (none)) else (none)
set_option maxHeartbeats 80000000 in
set_option maxRecDepth 100000 in
theorem bits_RotateLeft64.calls (a0 : Int) (a1 : Int) (r : Int) (w : World) (h : bits_RotateLeft64.f a0 a1 = some r) :
  Calls Try.prog 84 #[.int .u64 a0, .int .i64 a1] w fun e w' => e = .returned (.int .u64 r) ∧ Drawn0 w w' := by
 have H : (if 0 ≤ (Go.bits .and .u64 (IntKind.u64.wrap (a1)) 63) then (if 0 ≤ (IntKind.u64.wrap (64 - (Go.bits .and .u64 (IntKind.u64.wrap (a1)) 63))) then (some (Go.bits .or .u64 (shl .u64 a0 (Go.bits .and .u64 (IntKind.u64.wrap (a1)) 63)) (shr .u64 a0 (IntKind.u64.wrap (64 - (Go.bits .and .u64 (IntKind.u64.wrap (a1)) 63)))))) else (none)) else (none)) = some r:=h
 clear h
 obtain ⟨ji3, hji3⟩ : ∃ j_ : Int, (Go.bits .and .u64 (IntKind.u64.wrap (a1)) 63) = j_ := ⟨_, rfl⟩
 replace H : (if 0 ≤ (ji3) then (if 0 ≤ (IntKind.u64.wrap (64 - (ji3))) then (some (Go.bits .or .u64 (shl .u64 a0 (ji3)) (shr .u64 a0 (IntKind.u64.wrap (64 - (ji3)))))) else (none)) else (none)) = some r:=by first|(rw [hji3] at H;exact H)|(simp only [hji3] at H ⊢;exact H)
 by_cases c4 : 0 ≤ (ji3)
 ·rw [if_pos c4] at H
  have c4b0 := eq_true c4
  have c4b1 : decide (0 ≤ (ji3)) = true := decide_eq_true c4
  clear c4
  obtain ⟨ji5, hji5⟩ : ∃ j_ : Int, (shl .u64 a0 (ji3)) = j_ := ⟨_, rfl⟩
  replace H : (if 0 ≤ (IntKind.u64.wrap (64 - (ji3))) then (some (Go.bits .or .u64 (ji5) (shr .u64 a0 (IntKind.u64.wrap (64 - (ji3)))))) else (none)) = some r:=by first|(rw [hji5] at H;exact H)|(simp only [hji5] at H ⊢;exact H)
  have hji5_ : (IntKind.u64.wrap (a0 * 2 ^ min (ji3).toNat 64)) = ji5 := hji5
  have hji5z : (ji3) ≤ 64 → (IntKind.u64.wrap (a0 * 2 ^ (ji3).toNat)) = ji5 := shl_small hji5
  obtain ⟨ji6, hji6⟩ : ∃ j_ : Int, (IntKind.u64.wrap (64 - (ji3))) = j_ := ⟨_, rfl⟩
  replace H : (if 0 ≤ (ji6) then (some (Go.bits .or .u64 (ji5) (shr .u64 a0 (ji6)))) else (none)) = some r:=by first|(rw [hji6] at H;exact H)|(simp only [hji6] at H ⊢;exact H)
  by_cases c7 : 0 ≤ (ji6)
  ·rw [if_pos c7] at H
   have c7b0 := eq_true c7
   have c7b1 : decide (0 ≤ (ji6)) = true := decide_eq_true c7
   clear c7
   obtain ⟨ji8, hji8⟩ : ∃ j_ : Int, (shr .u64 a0 (ji6)) = j_ := ⟨_, rfl⟩
   replace H : (some (Go.bits .or .u64 (ji5) (ji8))) = some r:=by first|(rw [hji8] at H;exact H)|(simp only [hji8] at H ⊢;exact H)
   have hji8_ : (a0 / 2 ^ min (ji6).toNat 64) = ji8 := hji8
   have hji8z : (ji6) ≤ 64 → (a0 / 2 ^ (ji6).toNat) = ji8 := shr_small hji8
   obtain rfl := Option.some.inj H
   simp only [Option.some.injEq, Prod.mk.injEq] at H
   obtain ⟨rfl⟩ := H
   go_enter Try.func84, Try.ntmps84
   go_wp2
   go_ret
   exact ⟨by first | rfl|(simp;done)|(simp only [← hji3,← hji5,← hji6,← hji8] <;> (first | rfl | simp))|(simp [*];done),by repeat (first|exact Drawn0.refl _|apply Drawn0.step)⟩
  ·rw [if_neg c7] at H
   exact absurd H (by simp)
 ·rw [if_neg c4] at H
  exact absurd H (by simp)

-- NOT PRINTED: function 71 (bloom_places)

/-! ### bloom_Make: function 49, with bloom.places, by hand (type numbers 5, 24, 36, 56 are seat a's) -/
def plc (h d size : Int) : Nat → List Int
 | 0 => []
 | n + 1 => (h.tmod size) :: plc (IntKind.u64.wrap (h + d)) d size n
def placesF (k : Nat) (a0 : ByteArray) (size : Int) : Option (List Int):=(ckey_Hash.f k a0).bind fun h=>(bits_RotateLeft64.f h (-17)).bind fun d=>if 0 < size∧0 ≤ h then some (plc h d size 6) else none
def cells6 (l : List Int) : Array Value:=((l.map (Value.int .u64)) ++ List.replicate (6 - l.length) (Value.int .u64 0)).toArray
theorem cells6_set (l : List Int) (x : Int) (h : l.length < 6) : cells6 (l ++ [x]) = (cells6 l).setIfInBounds l.length (Value.int .u64 x):=by
 unfold cells6
 rw [List.setIfInBounds_toArray]
 congr 1
 rw [List.set_append_right _ _ (by rw [List.length_map];omega),List.length_map,Nat.sub_self,List.length_append,List.length_singleton,List.map_append,List.append_assoc]
 congr 1
 rw [show 6 - l.length = (6 - (l.length + 1)) + 1 by omega, List.replicate_succ]; rfl
theorem cells6_get (l : List Int) (i : Nat) (hl : l.length ≤ 6) (h : i < 6) : ∃ v, (cells6 l)[i]? = some v := by
 have : i < (cells6 l).size := by simp [cells6]; omega
 exact ⟨_, Array.getElem?_eq_getElem this⟩
theorem bloom_places.calls (k : Nat) (a0 : ByteArray) (a1 : Int) (r : List Int) (w : World) (h : placesF k a0 a1 = some r) :
  Calls Try.prog 71 #[.string a0,.int .u64 a1] w fun e w'=>e = .returned (.agg (r.map (Value.int .u64)).toArray)∧Below w.heap.size w w':=by
 unfold placesF at h
 obtain ⟨hh, A1, h⟩ := Option.bind_eq_some_iff.mp h
 obtain ⟨dd, A2, h⟩ := Option.bind_eq_some_iff.mp h
 by_cases c : 0 < a1 ∧ 0 ≤ hh
 ·rw [if_pos c] at h
  obtain rfl := Option.some.inj h
  have A1 := Aside0.mk A1
  have A2 := Aside0.mk A2
  have hne : (a1 = 0) = False := eq_false (by omega)
  have hpos : (0 < a1) = True := eq_true c.1
  clear h
  obtain ⟨x0,x1,x2,x3,x4,x5,e6⟩ : ∃ x0 x1 x2 x3 x4 x5,plc hh dd a1 6 = [x0,x1,x2,x3,x4,x5]:=⟨_,_,_,_,_,_,rfl⟩
  rw [e6]
  go_enter Try.func71, Try.ntmps71
  go_wp2_with (first|(go_at_call 83;(with_reducible refine (ckey_Hash.calls k a0 hh _ A1.out).mono ?_);rintro e w' ⟨rfl,⟨nd,rfl⟩⟩)|(go_at_call 84;(with_reducible refine (bits_RotateLeft64.calls hh (-17) dd _ A2.out).mono ?_);rintro e w' ⟨rfl,⟨nd2,rfl⟩⟩))
  go_loopg [6,13] 6 (fun kx s6 s13 wr=>∃ (hx : Int) (dn : List Int),s13 = .int .i64 (dn.length : Int)∧s6 = .int .u64 hx∧dn.length + kx = 6∧Aside0 (dn ++ plc hx dd a1 kx = [x0,x1,x2,x3,x4,x5])∧Aside0 (wr.heap[w.heap.size + 1]? = some (.cells (cells6 dn) 123 (0,0)))∧Aside0 (wr.heap[w.heap.size]? = some (.cells (cells6 []) 123 (0,0)))∧Aside0 (Below w.heap.size w wr))
  case atStart =>
   refine ⟨hh,[],rfl,rfl,rfl,⟨e6⟩,⟨blk_drewN ?_ _⟩,⟨blk_drewN ?_ _⟩,⟨pw_below_drewN (below_alloc (below_alloc (Below.refl _ _) _) _) _⟩⟩
   ·show ((w.heap.push _).push _)[w.heap.size + 1]? = _
    rw [show w.heap.size + 1 = (w.heap.push (Obj.cells (cells6 []) 123)).size by simp]
    exact Array.getElem?_push_size
   ·exact (Below.heap_alloc (w.alloc _) _ w.heap.size (by simp)).trans Array.getElem?_push_size
  case round =>
   obtain ⟨hx, dn, rfl, rfl, hk, HE, HB5, HB4, HB⟩ := hrel
   cases gk with
   | zero =>
    have hb : ((dn.length : Int) < 6) = False := eq_false (by omega)
    have hdn : dn = [x0, x1, x2, x3, x4, x5] := by have := HE.out; simp only [plc, List.append_nil] at this; exact this
    subst hdn
    have B5 : wr.heap[w.heap.size + 1]? = some (.cells #[.int .u64 x0,.int .u64 x1,.int .u64 x2,.int .u64 x3,.int .u64 x4,.int .u64 x5] 123 (0,0)):=HB5.out
    have B4 : wr.heap[w.heap.size]? = some (.cells #[.int .u64 0,.int .u64 0,.int .u64 0,.int .u64 0,.int .u64 0,.int .u64 0] 123 (0,0)):=HB4.out
    have z0 : wr.cell? ⟨w.heap.size + 1, 0, none⟩ = some (.int .u64 x0) := (blk_cell B5 0).trans rfl
    have z1 : wr.cell? ⟨w.heap.size + 1, 1, none⟩ = some (.int .u64 x1) := (blk_cell B5 1).trans rfl
    have z2 : wr.cell? ⟨w.heap.size + 1, 2, none⟩ = some (.int .u64 x2) := (blk_cell B5 2).trans rfl
    have z3 : wr.cell? ⟨w.heap.size + 1, 3, none⟩ = some (.int .u64 x3) := (blk_cell B5 3).trans rfl
    have z4 : wr.cell? ⟨w.heap.size + 1, 4, none⟩ = some (.int .u64 x4) := (blk_cell B5 4).trans rfl
    have z5 : wr.cell? ⟨w.heap.size + 1, 5, none⟩ = some (.int .u64 x5) := (blk_cell B5 5).trans rfl
    have y0 := (blk_cell B4 0).trans rfl
    have f0 := blk_frozen B4 0
    have y1 := (blk_cell B4 1).trans rfl
    have f1 := blk_frozen B4 1
    have y2 := (blk_cell B4 2).trans rfl
    have f2 := blk_frozen B4 2
    have y3 := (blk_cell B4 3).trans rfl
    have f3 := blk_frozen B4 3
    have y4 := (blk_cell B4 4).trans rfl
    have f4 := blk_frozen B4 4
    have y5 := (blk_cell B4 5).trans rfl
    have f5 := blk_frozen B4 5
    go_wp2
    have hE:=(blk_set (blk_set (blk_set (blk_set (blk_set (blk_set B4 0 (.int .u64 x0)) 1 (.int .u64 x1)) 2 (.int .u64 x2)) 3 (.int .u64 x3)) 4 (.int .u64 x4)) 5 (.int .u64 x5))
    refine bodyPost_ret (results_single rfl (.cell w.heap.size 123 #[.int .u64 x0,.int .u64 x1,.int .u64 x2,.int .u64 x3,.int .u64 x4,.int .u64 x5] (0,0) _ rfl hE Try.underlying123 rfl (by kernel_rfl) .nil)) rfl ?_
    exact ⟨rfl,below_set (below_set (below_set (below_set (below_set (below_set HB.out (Nat.le_refl _)) (Nat.le_refl _)) (Nat.le_refl _)) (Nat.le_refl _)) (Nat.le_refl _)) (Nat.le_refl _)⟩
   | succ k1 =>
    have hb : ((dn.length : Int) < 6) = True := eq_true (by omega)
    have hb1 : (dn.length < 6) = True := eq_true (by omega)
    obtain ⟨v, hv⟩ := cells6_get dn dn.length (by omega) (by omega)
    have hc := (blk_cell HB5.out dn.length).trans hv
    have hf := blk_frozen HB5.out dn.length
    go_wp2
    go_roundg k1
    case measure => omega
    case rel =>
     have hB5 := blk_set HB5.out dn.length (Value.int .u64 (hx.tmod a1))
     rw [← cells6_set dn (hx.tmod a1) (by omega)] at hB5
     refine ⟨_,dn ++ [hx.tmod a1],by rw [List.length_append,List.length_singleton];rfl,rfl,by rw [List.length_append,List.length_singleton];omega,⟨?_⟩,⟨hB5⟩,⟨?_⟩,⟨below_set HB.out (by omega)⟩⟩
     ·have := HE.out; simp only [plc] at this; rw [List.append_assoc]; exact this
     ·exact (Below.heap_setCell wr _ _ _ (by show w.heap.size ≠ w.heap.size + 1; omega)).trans HB4.out
 ·rw [if_neg c] at h; cases h
theorem plc_props (d size : Int) (hs : 0 < size) : ∀ n h,0 ≤ h → (plc h d size n).length = n∧∀ p ∈ plc h d size n,0 ≤ p∧p < size
 | 0, _, _ => ⟨rfl, fun p hp => by cases hp⟩
 | n + 1, h, h0 => by
  have hw : 0 ≤ IntKind.u64.wrap (h + d):=by simp only [IntKind.wrap,IntKind.signed,IntKind.bits,Bool.false_and,Bool.false_eq_true,if_false];omega
  obtain ⟨h1, h2⟩ := plc_props d size hs n _ hw
  refine ⟨by simp only [plc, List.length_cons, h1], fun p hp => ?_⟩
  rcases List.mem_cons.1 hp with rfl | hp
  ·exact ⟨Int.tmod_nonneg _ h0, Int.tmod_lt_of_pos _ hs⟩
  ·exact h2 p hp
theorem placesF_props {k : Nat} {x : ByteArray} {size : Int} {ps : List Int} (h : placesF k x size = some ps) : ps.length = 6∧∀ p ∈ ps,0 ≤ p∧p < size:=by
 unfold placesF at h
 obtain ⟨hh, _, h⟩ := Option.bind_eq_some_iff.mp h
 obtain ⟨dd, _, h⟩ := Option.bind_eq_some_iff.mp h
 by_cases c : 0 < size ∧ 0 ≤ hh
 ·rw [if_pos c] at h
  obtain rfl := Option.some.inj h
  exact plc_props dd size c.1 6 hh c.2
 ·rw [if_neg c] at h; cases h

def setBit (b : List Int) (p : Int) : List Int:=b.set (p / 8).toNat (Go.bits .or .u8 (b.getD (p / 8).toNat 0) (2 ^ (p % 8).toNat % 256))
def makeL (k : Nat) (size : Int) : List ByteArray → List Int → Option (List Int)
 | [], b => some b
 | x :: t, b => (placesF k x (size * 8)).bind fun ps => makeL k size t (ps.foldl setBit b)
def sizeM (n : Nat) : Int := ((if 10 * (n : Int) < 64 then 64 else 10 * (n : Int)) + 8 - 1) / 8
def bloom_Make.f (k : Nat) (l0 : List ByteArray) : Option (List Int):=if l0.length < 100000 then ((makeL k (sizeM l0.length) l0 (List.replicate (sizeM l0.length + 1).toNat 0)).bind fun b=>some (b.set (sizeM l0.length).toNat 6)) else none
theorem sizeM_range (n : Nat) (h : n < 100000) : 8 ≤ sizeM n ∧ sizeM n ≤ 1000000 := by unfold sizeM; split <;> omega
theorem info5_ : (Try.prog.info? 5).map (fun i=>(i.zero,i.size,i.bytes)) = some (some (.int .u8 0),1,1):=by kernel_rfl
theorem run_index123 (W : World) (cs : Array Value) (j : Nat) (v : Value) (hj : cs[j]? = some v) (h6 : j < 6) : (Instr.index 123 (.agg cs) (.int .i64 j)).run Try.prog W = .ok v W:=by
 have hn : (0 : Int) ≤ (j : Int) ∧ (j : Int) < 6 := by omega
 have hn2 : j < 6 := h6
 simp [Instr.index, run_underlying Try.underlying123, asIntOf, hn, hj, hn2, go_sem]
theorem num_cell {w : World} {base g n cap : Nat} {ok : Nat → Prop} {l : List Int} (h : Kd.R (Kd.int .u8) 5 w base ok (.slice (some ⟨g,0,none⟩) n cap) l) (i : Nat) (hi : i < l.length) : w.cell? ⟨g,i,none⟩ = some (.int .u8 (l.getD i 0)):=by
 obtain ⟨rfl, _⟩ := Kd.R_reads' h
 have ho := Kd.own_of_R (enc := Value.int .u8) (h1 := fun _ => rfl) h
 have hc:=ho.cells (g:=g) rfl i (.int .u8 (l.getD i 0)) (by simp [encs,List.getElem?_eq_getElem hi,List.getD_eq_getElem?_getD])
 have e : (⟨g, 0, none⟩ : Addr).add i = ⟨g, i, none⟩ := by rw [add_plain]
 rwa [e] at hc
theorem num_frozen {w : World} {base g n cap : Nat} {ok : Nat → Prop} {l : List Int} (h : Kd.R (Kd.int .u8) 5 w base ok (.slice (some ⟨g,0,none⟩) n cap) l) (i : Nat) : w.frozen? ⟨g,i,none⟩ = false:=by
 obtain ⟨cur, hcur⟩ := own_typed (Kd.own_of_R (enc := Value.int .u8) (h1 := fun _ => rfl) h) g rfl
 exact blk_frozen hcur i
theorem makeL.mono (size : Int) : ∀ (l : List ByteArray) (b : List Int) (k : Nat),LeO (makeL k size l b) (makeL (k + 1) size l b)
 | [], b, k => LeO.refl _
 | x :: t, b, k => by
  unfold makeL
  refine LeO.bind ?_ (fun ps => makeL.mono size t _ k)
  unfold placesF
  exact LeO.bind (ckey_Hash.mono _ _) (fun _ => LeO.refl _)
theorem bloom_Make.mono : ∀ a0 k, LeO (bloom_Make.f k a0) (bloom_Make.f (k + 1) a0) := by
 intro a0 k
 unfold bloom_Make.f
 exact LeO.ite (LeO.bind (makeL.mono _ _ _ _) (fun _ => LeO.refl _)) (LeO.refl _)
theorem bloom_Make.calls (k : Nat) (A0 : Option Addr) (c0 : Nat) (l0 : List ByteArray) (r : List Int) (w : World) (hr0 : Kd.C Kd.string w A0 l0.length l0) (hc0 : l0.length ≤ c0) (h : bloom_Make.f k l0 = some r) :
  Calls Try.prog 49 #[.slice A0 l0.length c0] w fun e w'=>∃ v0_ : Value,e = .returned v0_∧Kd.R (Kd.int .u8) 5 w' w.heap.size (fun _=>True) v0_ r∧Below w.heap.size w w':=by
 have HR0 := Aside0.mk hr0
 clear hr0
 unfold bloom_Make.f at h
 by_cases hl : l0.length < 100000
 ·rw [if_pos hl] at h
  obtain ⟨r0, hM, h⟩ := Option.bind_eq_some_iff.mp h
  obtain rfl := Option.some.inj h
  clear h
  have HM := Aside0.mk hM
  clear hM
  have hS := sizeM_range l0.length hl
  have hSe : ((if 10 * (l0.length : Int) < 64 then 64 else 10 * (l0.length : Int)) + 8 - 1) / 8 = sizeM l0.length := rfl
  generalize sizeM l0.length = S at HM hS hSe ⊢
  go_enter Try.func49, Try.ntmps49
  go_upto_region 2 with (fail)
  rw [hSe]
  generalize (if 10 * (l0.length : Int) < 64 then 64 else 10 * (l0.length : Int)) = mm
  clear hSe
  go_wp2_with (first|((with_reducible refine gate_dst (N:=18) rfl ?_);refine Kd.R_make (Kd.int .u8) _ 5 rfl (N:=18) rfl 43 _ _ rfl (S + 1) rfl rfl Try.underlying43 (.int .u8 0) 1 info5_ rfl (by decide) (by omega) 0 (ok:=fun _=>True) (okp:=fun _=>True) rfl (fun _ hk=>hk) trivial (by omega) (by omega) (Below.refl _ _) (Nat.le_refl _) ?_;intro v1 w1 ho hb hg hat;have HO:=Aside0.mk ho;have HB:=Aside0.mk hb;clear ho hb hg hat))
  obtain ⟨g, cap, rfl⟩ : ∃ g cap, v1 = .slice (some ⟨g, 0, none⟩) (S + 1).toNat cap := by
   rcases (Kd.own_of_R (enc := Value.int .u8) (h1 := fun _ => rfl) HO.out).2 with ⟨_, h0⟩ | ⟨g, cap, _, e, _⟩
   ·simp at h0; omega
   ·exact ⟨g, cap, by rw [e, List.length_replicate]⟩
  go_loopg [21] l0.length (fun kx s21 wr=>∃ (i : Nat) (b : List Int),s21 = .int .i64 i∧i + kx = l0.length∧Aside0 (makeL k S (l0.drop i) b = some r0)∧Aside0 (b.length = (S + 1).toNat)∧Aside0 (Kd.R (Kd.int .u8) 5 wr w.heap.size (fun _=>True) (.slice (some ⟨g,0,none⟩) (S + 1).toNat cap) b)∧Aside0 (Below w.heap.size w wr))
  case atStart => exact ⟨0, _, rfl, by omega, HM, ⟨List.length_replicate ..⟩, HO, HB⟩
  case round =>
   obtain ⟨i, b, rfl, hk, HE, HL, HO, HB⟩ := hrel
   cases gk with
   | zero =>
    have hlt : ((i : Int) < (l0.length : Int)) = False := eq_false (by omega)
    have hb : b = r0 := by have h_ := HE.out; rw [List.drop_eq_nil_of_le (by omega)] at h_; exact Option.some.inj h_
    subst hb
    have hS0 : ((0 : Int) ≤ S) = True := eq_true (by omega)
    have hS1 : (S < S + 1) = True := eq_true (by omega)
    have hS2 : (S.toNat < (S + 1).toNat) = True := eq_true (by omega)
    have hcp := num_cell HO.out S.toNat (by have := HL.out; omega)
    have hfp := num_frozen HO.out S.toNat
    generalize b.getD S.toNat 0 = y at hcp
    have hgb : w.heap.size ≤ g := Kd.R_base HO.out g rfl
    go_wp2
    go_ret
    exact ⟨_, rfl, Kd.R_putn HO.out S 6, below_set HB.out hgb⟩
   | succ k1 =>
    have hlt : ((i : Int) < (l0.length : Int)) = True := eq_true (by omega)
    have hlt1 : (i < l0.length) = True := eq_true (by omega)
    have h0i : ((0 : Int) ≤ (i : Int)) = True := eq_true (by omega)
    obtain ⟨ad, rfl, hc⟩ := Kd.at_string (Kd.C_below HR0.out HB.out) (i : Int) (by omega) (by omega)
    rw [rdOf, Int.toNat_natCast] at hc
    have hd : l0.drop i = l0.getD i ByteArray.empty :: l0.drop (i + 1):=by rw [List.drop_eq_getElem_cons (by omega),List.getD_eq_getElem?_getD,List.getElem?_eq_getElem (by omega)];rfl
    have H := HE.out
    rw [hd] at H
    simp only [makeL] at H
    generalize l0.getD i ByteArray.empty = x at H hc hd
    obtain ⟨ps, HP, H⟩ := Option.bind_eq_some_iff.mp H
    have HE := Aside0.mk H
    clear H
    have HP := Aside0.mk HP
    have hw1 : IntKind.u64.wrap S = S:=by simp only [IntKind.wrap,IntKind.signed,IntKind.bits,Bool.false_and,Bool.false_eq_true,if_false];omega
    have hw2 : IntKind.u64.wrap (S * 8) = S * 8:=by simp only [IntKind.wrap,IntKind.signed,IntKind.bits,Bool.false_and,Bool.false_eq_true,if_false];omega
    go_wp2_with (first|(go_at_call 71;(with_reducible refine (bloom_places.calls k x (S * 8) ps _ HP.out).mono ?_);rintro e w' ⟨rfl,hb⟩;have n0_:=Aside0.mk (Kd.R_below HO.out hb);have n1_:=Aside0.mk (below_step HB.out hb);clear HO HB;have HO:=n0_;have HB:=n1_;clear n0_ n1_ hb))
    obtain ⟨hpl, hpr⟩ := placesF_props HP.out
    obtain ⟨bF, hbF⟩ : ∃ bF, bF = ps.foldl setBit b := ⟨_, rfl⟩
    rw [← hbF] at HE
    have HF := Aside0.mk hbF.symm
    clear hbF
    go_loopg [30] 6 (fun kx s30 wr=>∃ (j : Nat) (b : List Int),s30 = .int .i64 j∧j + kx = 6∧Aside0 ((ps.drop j).foldl setBit b = bF)∧Aside0 (b.length = (S + 1).toNat)∧Aside0 (Kd.R (Kd.int .u8) 5 wr w.heap.size (fun _=>True) (.slice (some ⟨g,0,none⟩) (S + 1).toNat cap) b)∧Aside0 (Below w.heap.size w wr))
    case atStart => exact ⟨0, b, rfl, rfl, HF, HL, HO, HB⟩
    case round =>
     clear HF HL HO HB hc
     obtain ⟨j, b2, rfl, hk2, HF, HL, HO, HB⟩ := hrel
     cases gk with
     | zero =>
      have hj : ((j : Int) < 6) = False := eq_false (by omega)
      have hbF : b2 = bF := by have h_ := HF.out; rw [List.drop_eq_nil_of_le (by omega)] at h_; exact h_
      subst hbF
      go_wp2
      go_roundg k1
      case measure => omega
      case rel => exact ⟨i + 1, b2, rfl, by omega, HE, HL, HO, HB⟩
     | succ k2 =>
      have hj : ((j : Int) < 6) = True := eq_true (by omega)
      have hj1 : (j < ps.length) = True := eq_true (by omega)
      have hj0 : ((0 : Int) ≤ (j : Int)) = True := eq_true (by omega)
      have hdj : ps.drop j = ps.getD j 0 :: ps.drop (j + 1):=by rw [List.drop_eq_getElem_cons (by omega),List.getD_eq_getElem?_getD,List.getElem?_eq_getElem (by omega)];rfl
      have hidx : (List.map (Value.int IntKind.u64) ps).toArray[j]? = some (Value.int .u64 (ps.getD j 0)) := by
       rw [List.getElem?_toArray,List.getElem?_map,List.getD_eq_getElem?_getD,List.getElem?_eq_getElem (by omega)];rfl
      have hpj:=hpr (ps.getD j 0) (by rw [List.getD_eq_getElem?_getD,List.getElem?_eq_getElem (show j < ps.length by omega)];exact List.getElem_mem _)
      have H := HF.out
      rw [hdj, List.foldl_cons] at H
      have HF := Aside0.mk H
      clear H hdj
      generalize ps.getD j 0 = p at HF hidx hpj
      have hix : ∀ W : World,(Instr.index 123 (.agg (List.map (Value.int IntKind.u64) ps).toArray) (.int .i64 (j : Int))).run Try.prog W = .ok (.int .u64 p) W:=fun W=>run_index123 W _ j _ hidx (by omega)
      have hcp := num_cell HO.out (p / 8).toNat (by have := HL.out; omega)
      have hfp := num_frozen HO.out (p / 8).toNat
      generalize hy : b2.getD (p / 8).toNat 0 = y at hcp
      have hd8 : ((0 : Int) ≤ p.tmod 8) = True := eq_true (Int.tmod_nonneg _ hpj.1)
      go_wp2
      go_roundg k2
      case measure => omega
      case rel =>
       have hgb : w.heap.size ≤ g := Kd.R_base HO.out g rfl
       refine ⟨j + 1,setBit b2 p,rfl,by omega,HF,⟨by unfold setBit;rw [List.length_set];exact HL.out⟩,⟨?_⟩,⟨below_set HB.out hgb⟩⟩
       have h_ := Kd.R_putn HO.out (p / 8) (Go.bits .or .u8 y (2 ^ (p % 8).toNat % 256))
       unfold setBit
       rw [hy]
       exact h_
 ·rw [if_neg hl] at h; cases h

-- NOT PRINTED: function 72 (slices_Compact_string_string)

-- NOT PRINTED: function 50 (table_norms)

/-! ### varint_Put64: function 51 -/
def varint_Put64.f (k : Nat) (a0 : Int) : Option (List Int) := (varint_fixed.f k a0 8).bind fun t190 => (some t190)
theorem varint_Put64.mono : ∀ a0 k, LeO (varint_Put64.f k a0) (varint_Put64.f (k + 1) a0) := by
 intro a0 k
 unfold varint_Put64.f
 repeat' first
  |(with_reducible exact varint_fixed.mono _ _ _)
  |(with_reducible exact LeO.refl _)
  |(with_reducible exact LeO.none _)
  |(with_reducible refine LeO.ite ?_ ?_)
  |(with_reducible refine LeO.bind ?_ (fun _ => ?_))
  |exact varint_fixed.mono _ _ _
  |exact LeO.none _
  |refine LeO.ite ?_ ?_
  |refine LeO.bind ?_ (fun _ => ?_)
set_option maxHeartbeats 80000000 in
set_option maxRecDepth 100000 in
theorem varint_Put64.calls (k : Nat) (a0 : Int) (r : List Int) (w : World) (h : varint_Put64.f k a0 = some r) :
  Calls Try.prog 51 #[.int .u64 a0] w fun e w'=>∃ v0_ : Value,e = .returned (v0_)∧Kd.R (Kd.int .u8) 5 w' w.heap.size (fun _=>True) v0_ r∧Below w.heap.size w w':=by
 have HB := Aside0.mk (Below.refl w.heap.size w)
 have H : ((varint_fixed.f k a0 8).bind fun t190 => (some t190)) = some r := h
 clear h
 replace H := Option.bind_eq_some_iff.mp H
 obtain ⟨t190, A20, H⟩ := H
 replace H : (some t190) = some r := H
 have A2 := Aside0.mk A20
 clear A20
 obtain rfl := Option.some.inj H
 simp only [Option.some.injEq, Prod.mk.injEq] at H
 obtain ⟨rfl⟩ := H
 go_enter Try.func51, Try.ntmps51
 go_wp2_with (first|((with_reducible refine gate_callee (f:=73) rfl ?_);refine goesL_ (some 4) rfl rfl Try.func73 (by kernel_rfl) rfl #[.int .u64 a0,.int .i64 8] rfl (by (try simp only [List.map_toArray,List.map_cons,List.map_nil]);first | done | rfl|(simp only [List.length_drop,List.length_take];rfl)) ?_;(with_reducible refine (varint_fixed.calls k a0 8 t190 _ A2.out).mono ?_);rintro e w3 ⟨v191,rfl,ho0,hb⟩;refine ⟨_,rfl,?_⟩;have n0_:=Aside0.mk (Kd.R_lower ho0 (below_size (by repeat (first|(with_reducible first|exact HB.out|apply below_alloc|apply pw_below_drewN|apply below_drew1)|exact HB.out))));have n1_:=Aside0.mk (below_step (by repeat (first|(with_reducible first|exact HB.out|apply below_alloc|apply pw_below_drewN|apply below_drew1)|exact HB.out)) hb);clear HB;have HO192:=n0_;have HB:=n1_;clear n0_ n1_;(try clear hb);(try clear hb2);(try clear hk);(try clear hi);(try clear ho0)))
 go_ret
 exact ⟨_,by first | rfl|(simp [errW_none,errW_some] <;> rfl)|(simp [*,errW_none,errW_some] <;> rfl),by (with_reducible repeat (first|apply Kd.R_alloc|apply Kd.R_drewN|apply Kd.R_drew));exact HO192.out,by repeat (first|(with_reducible first|exact HB.out|apply below_alloc|apply pw_below_drewN|apply below_drew1)|exact HB.out)⟩

/-! ### crc_More: function 74 -/
mutual
def crc_More.l0 : Nat → Int → List Int → Int → Int → Option (Int)
 | 0, _, _, _, _ => none
 | k + 1,x5,x10,x11,x12=>if x12 < x11 then (if 0 ≤ x12 then (if x12 < (x10.length : Int) then (crc_More.l1 k (Go.bits .xor .u32 x5 ((rd x10 x12) % 4294967296)) x10 x11 x12 0) else (none)) else (none)) else (some (Go.bits .xor .u32 4294967295 x5))
def crc_More.l1 : Nat → Int → List Int → Int → Int → Int → Option (Int)
 | 0, _, _, _, _, _ => none
 | k + 1,x5,x10,x11,x12,x20=>if x20 < 8 then (crc_More.l1 k (Go.bits .xor .u32 (x5 / 2) (Go.bits .and .u32 2197175160 ((-(Go.bits .and .u32 x5 1)) % 4294967296))) x10 x11 x12 (wrap64 (x20 + 1))) else (crc_More.l0 k x5 x10 x11 (wrap64 (x12 + 1)))
end
def crc_More.f (k : Nat) (a0 : Int) (l1 : List Int) : Option (Int):=crc_More.l0 k (Go.bits .xor .u32 4294967295 a0) l1 (l1.length : Int) 0
theorem crc_More.mono_l : ∀ k,(∀ y0 y1 y2 y3,LeO (crc_More.l0 k y0 y1 y2 y3) (crc_More.l0 (k + 1) y0 y1 y2 y3))∧(∀ y0 y1 y2 y3 y4,LeO (crc_More.l1 k y0 y1 y2 y3 y4) (crc_More.l1 (k + 1) y0 y1 y2 y3 y4))
 | 0 => ⟨fun _ _ _ _ r h => by simp [crc_More.l0] at h, fun _ _ _ _ _ r h => by simp [crc_More.l1] at h⟩
 | k + 1 => by
  obtain ⟨ih0, ih1⟩ := crc_More.mono_l k
  refine ⟨?_, ?_⟩
  ·intro y0 y1 y2 y3
   unfold crc_More.l0
   repeat' first
  |(with_reducible exact ih0 _ _ _ _)
  |(with_reducible exact ih1 _ _ _ _ _)
  |(with_reducible exact LeO.refl _)
  |(with_reducible exact LeO.none _)
  |(with_reducible refine LeO.ite ?_ ?_)
  |(with_reducible refine LeO.bind ?_ (fun _ => ?_))
  |exact ih0 _ _ _ _
  |exact ih1 _ _ _ _ _
  |exact LeO.none _
  |refine LeO.ite ?_ ?_
  |refine LeO.bind ?_ (fun _ => ?_)
  ·intro y0 y1 y2 y3 y4
   unfold crc_More.l1
   repeat' first
  |(with_reducible exact ih0 _ _ _ _)
  |(with_reducible exact ih1 _ _ _ _ _)
  |(with_reducible exact LeO.refl _)
  |(with_reducible exact LeO.none _)
  |(with_reducible refine LeO.ite ?_ ?_)
  |(with_reducible refine LeO.bind ?_ (fun _ => ?_))
  |exact ih0 _ _ _ _
  |exact ih1 _ _ _ _ _
  |exact LeO.none _
  |refine LeO.ite ?_ ?_
  |refine LeO.bind ?_ (fun _ => ?_)
theorem crc_More.mono : ∀ a0 a1 k, LeO (crc_More.f k a0 a1) (crc_More.f (k + 1) a0 a1) := by
 intro a0 a1 k
 obtain ⟨ih0, ih1⟩ := crc_More.mono_l k
 unfold crc_More.f
 repeat' first
  |(with_reducible exact ih0 _ _ _ _)
  |(with_reducible exact ih1 _ _ _ _ _)
  |(with_reducible exact LeO.refl _)
  |(with_reducible exact LeO.none _)
  |(with_reducible refine LeO.ite ?_ ?_)
  |(with_reducible refine LeO.bind ?_ (fun _ => ?_))
  |exact ih0 _ _ _ _
  |exact ih1 _ _ _ _ _
  |exact LeO.none _
  |refine LeO.ite ?_ ?_
  |refine LeO.bind ?_ (fun _ => ?_)
set_option maxHeartbeats 80000000 in
set_option maxRecDepth 100000 in
theorem crc_More.calls (k : Nat) (a0 : Int) (A1 : Option Addr) (c1 : Nat) (l1 : List Int) (r : Int) (w : World) (hr1 : Kd.C (Kd.int .u8) w A1 l1.length l1) (hc1 : l1.length ≤ c1) (h : crc_More.f k a0 l1 = some r) :
  Calls Try.prog 74 #[.int .u32 a0,.slice A1 l1.length c1] w fun e w'=>e = .returned (.int .u32 r)∧Drawn0 w w':=by
 have HR1 := Aside0.mk hr1
 have HC1 := Aside0.mk hc1
 clear hr1 hc1
 have H : (crc_More.l0 k (Go.bits .xor .u32 4294967295 a0) l1 (l1.length : Int) 0) = some r := h
 clear h
 have H' := Aside0.mk H
 clear H
 go_enter Try.func74, Try.ntmps74
 go_wp2
 go_loopg [5,12] k (fun kq v5 v12 w'=>∃ (x5_1 : Int) (x12_1 : Int),v5 = .int .u32 x5_1∧v12 = .int .i64 x12_1∧Aside0 (crc_More.l0 kq x5_1 l1 (l1.length : Int) x12_1 = some r)∧Aside0 (kq ≤ k)∧Drawn0 w w')
 case atStart=>exact ⟨(Go.bits .xor .u32 4294967295 a0),(0),(by first | rfl|(simp;done)|(simp [*];done)),(by first | rfl|(simp;done)|(simp [*];done)),H',⟨Nat.le_refl _⟩,by repeat (first|exact Drawn0.refl _|apply Drawn0.step)⟩
 case round =>
  clear H'
  try clear c1
  try clear p2
  obtain ⟨x5_1, x12_1, rfl, rfl, HA, HK1, ⟨m1, rfl⟩⟩ := hrel
  cases gk with
  | zero => exact absurd HA.out (by simp [crc_More.l0])
  | succ k1 =>
   have H := HA.out
   clear HA
   simp only [crc_More.l0] at H
   by_cases c3 : x12_1 < (l1.length : Int)
   ·rw [if_pos c3] at H
    have c3b0 : decide (x12_1 < (l1.length : Int)) = true := decide_eq_true c3
    clear c3
    by_cases c4 : 0 ≤ x12_1
    ·rw [if_pos c4] at H
     have c4b0 : decide (0 ≤ x12_1) = true := decide_eq_true c4
     clear c4
     by_cases c5 : x12_1 < (l1.length : Int)
     ·rw [if_pos c5] at H
      have c5b0 : decide (x12_1 < (l1.length : Int)) = true := decide_eq_true c5
      clear c5
      have H' := Aside0.mk H
      clear H
      have p193 : 0 ≤ (x12_1 : Int) := of_decide_eq_true (by first|(with_reducible assumption) | assumption)
      have q193 : x12_1 < (l1.length : Int) := of_decide_eq_true (by first|(with_reducible assumption) | assumption)
      obtain ⟨ad193, e193, hx193_0⟩ := Kd.at_int HR1.out x12_1 p193 q193
      cases e193
      replace p193 := eq_true p193
      replace q193 := eq_true q193
      go_wp2
      go_loopg [5,20] k1 (fun kq v5 v20 w'=>∃ (x5_2 : Int) (x20_2 : Int),v5 = .int .u32 x5_2∧v20 = .int .i64 x20_2∧Aside0 (crc_More.l1 kq x5_2 l1 (l1.length : Int) x12_1 x20_2 = some r)∧Aside0 (kq ≤ k1)∧Drawn0 w w')
      case atStart=>exact ⟨(Go.bits .xor .u32 x5_1 ((rd l1 x12_1) % 4294967296)),(0),(by first | rfl|(simp;done)|(simp [*];done)),(by first | rfl|(simp;done)|(simp [*];done)),H',⟨Nat.le_refl _⟩,by repeat (first|exact Drawn0.refl _|apply Drawn0.step)⟩
      case round =>
       clear H'
       try clear c1
       try clear p1
       try clear q1
       try clear hx1
       try clear p2
       try clear c3
       try clear c3b0
       try clear c4
       try clear c4b0
       try clear c5
       try clear c5b0
       try clear hx193_0
       try clear p193
       try clear p2
       try clear q193
       obtain ⟨x5_2, x20_2, rfl, rfl, HA, HK2, ⟨m2, rfl⟩⟩ := hrel
       cases gk with
       | zero => exact absurd HA.out (by simp [crc_More.l1])
       | succ k2 =>
        have H := HA.out
        clear HA
        simp only [crc_More.l1] at H
        by_cases c6 : x20_2 < 8
        ·rw [if_pos c6] at H
         have c6b0 : decide (x20_2 < 8) = true := decide_eq_true c6
         clear c6
         have H' := Aside0.mk H
         clear H
         go_wp2
         go_roundg k2
         case measure => have := HK1.out; have := HK2.out; omega
         case rel=>exact ⟨(Go.bits .xor .u32 (x5_2 / 2) (Go.bits .and .u32 2197175160 ((-(Go.bits .and .u32 x5_2 1)) % 4294967296))),(wrap64 (x20_2 + 1)),(by first | rfl|(simp;done)|(simp [*];done)),(by first | rfl|(simp;done)|(simp [*];done)),H',⟨by have:=HK1.out;have:=HK2.out;omega⟩,by repeat (first|exact Drawn0.refl _|apply Drawn0.step)⟩
        ·rw [if_neg c6] at H
         have c6b0 : decide (x20_2 < 8) = false := decide_eq_false c6
         clear c6
         have H' := Aside0.mk H
         clear H
         go_wp2
         go_roundg k2
         case measure => have := HK1.out; have := HK2.out; omega
         case rel=>exact ⟨(x5_2),(wrap64 (x12_1 + 1)),(by first | rfl|(simp;done)|(simp [*];done)),(by first | rfl|(simp;done)|(simp [*];done)),H',⟨by have:=HK1.out;have:=HK2.out;omega⟩,by repeat (first|exact Drawn0.refl _|apply Drawn0.step)⟩
     ·rw [if_neg c5] at H
      exact absurd H (by simp)
    ·rw [if_neg c4] at H
     exact absurd H (by simp)
   ·rw [if_neg c3] at H
    have c3b0 : decide (x12_1 < (l1.length : Int)) = false := decide_eq_false c3
    clear c3
    obtain rfl := Option.some.inj H
    simp only [Option.some.injEq, Prod.mk.injEq] at H
    obtain ⟨rfl⟩ := H
    go_wp2
    go_ret
    exact ⟨by first | rfl|(simp; done)|(simp [*]; done), by repeat (first|exact Drawn0.refl _|apply Drawn0.step)⟩

/-! ### crc_Sum: function 53 -/
def crc_Sum.f (k : Nat) (l0 : List Int) : Option (Int) := (crc_More.f k 0 l0).bind fun t194 => (some t194)
theorem crc_Sum.mono : ∀ a0 k, LeO (crc_Sum.f k a0) (crc_Sum.f (k + 1) a0) := by
 intro a0 k
 unfold crc_Sum.f
 repeat' first
  |(with_reducible exact crc_More.mono _ _ _)
  |(with_reducible exact LeO.refl _)
  |(with_reducible exact LeO.none _)
  |(with_reducible refine LeO.ite ?_ ?_)
  |(with_reducible refine LeO.bind ?_ (fun _ => ?_))
  |exact crc_More.mono _ _ _
  |exact LeO.none _
  |refine LeO.ite ?_ ?_
  |refine LeO.bind ?_ (fun _ => ?_)
set_option maxHeartbeats 80000000 in
set_option maxRecDepth 100000 in
theorem crc_Sum.calls (k : Nat) (A0 : Option Addr) (c0 : Nat) (l0 : List Int) (r : Int) (w : World) (hr0 : Kd.C (Kd.int .u8) w A0 l0.length l0) (hc0 : l0.length ≤ c0) (h : crc_Sum.f k l0 = some r) :
  Calls Try.prog 53 #[.slice A0 l0.length c0] w fun e w' => e = .returned (.int .u32 r) ∧ Drawn0 w w' := by
 have HR0 := Aside0.mk hr0
 have HC0 := Aside0.mk hc0
 clear hr0 hc0
 have H : ((crc_More.f k 0 l0).bind fun t194 => (some t194)) = some r := h
 clear h
 replace H := Option.bind_eq_some_iff.mp H
 obtain ⟨t194, A20, H⟩ := H
 replace H : (some t194) = some r := H
 have A2 := Aside0.mk A20
 clear A20
 obtain rfl := Option.some.inj H
 simp only [Option.some.injEq, Prod.mk.injEq] at H
 obtain ⟨rfl⟩ := H
 go_enter Try.func53, Try.ntmps53
 go_wp2_with (first|((with_reducible refine gate_callee (f:=74) rfl ?_);refine goesL_ (some 4) rfl rfl Try.func74 (by kernel_rfl) rfl #[.int .u32 0,.slice A0 l0.length c0] rfl (by (try simp only [List.map_toArray,List.map_cons,List.map_nil]);first | done | rfl|(simp only [List.length_drop,List.length_take];rfl)) ?_;(with_reducible refine (crc_More.calls k 0 _ _ l0 t194 _ ?side1 ?side2 A2.out).mono ?_);(case side1=>repeat (first|exact HR0.out|(with_reducible refine Kd.C_alloc ?_ _)|(with_reducible refine Kd.C_drewN ?_ _)|(with_reducible refine Kd.C_drew ?_)));(case side2=>exact HC0.out);rintro e w' ⟨rfl,⟨nd,rfl⟩⟩;refine ⟨_,rfl,?_⟩))
 go_ret
 exact ⟨by first | rfl|(simp; done)|(simp [*]; done), by repeat (first|exact Drawn0.refl _|apply Drawn0.step)⟩

-- NOT PRINTED: function 22 (table_Build)

/-! ### varint_read: function 75 -/
def varint_read.l0 : Nat → Int → List Int → Int → Int → Option (Int)
 | 0, _, _, _, _ => none
 | k + 1,x5,x14,x15,x16=>if x16 < x15 then (if 0 ≤ x16 then (if x16 < (x14.length : Int) then (if 0 ≤ (wrap64 (8 * x16)) then (varint_read.l0 k (Go.bits .or .u64 x5 (shl .u64 (IntKind.u64.wrap (rd x14 x16)) (wrap64 (8 * x16)))) x14 x15 (wrap64 (x16 + 1))) else (none)) else (none)) else (none)) else (some x5)
def varint_read.f (k : Nat) (l0 : List Int) (a1 : Int) : Option (Int):=if (l0.length : Int) < a1 then (some 0) else (if 0 ≤ a1 then (if a1 ≤ (l0.length : Int) then ((some (l0.take (a1 : Int).toNat : List Int)).bind fun y196=>(varint_read.l0 k 0 y196 (y196.length : Int) 0)) else (none)) else (none))
theorem varint_read.mono_l : ∀ k,(∀ y0 y1 y2 y3,LeO (varint_read.l0 k y0 y1 y2 y3) (varint_read.l0 (k + 1) y0 y1 y2 y3))
 | 0 => fun _ _ _ _ r h => by simp [varint_read.l0] at h
 | k + 1 => by
  have ih0 := varint_read.mono_l k
  ·intro y0 y1 y2 y3
   unfold varint_read.l0
   repeat' first
  |(with_reducible exact ih0 _ _ _ _)
  |(with_reducible exact LeO.refl _)
  |(with_reducible exact LeO.none _)
  |(with_reducible refine LeO.ite ?_ ?_)
  |(with_reducible refine LeO.bind ?_ (fun _ => ?_))
  |exact ih0 _ _ _ _
  |exact LeO.none _
  |refine LeO.ite ?_ ?_
  |refine LeO.bind ?_ (fun _ => ?_)
theorem varint_read.mono : ∀ a0 a1 k, LeO (varint_read.f k a0 a1) (varint_read.f (k + 1) a0 a1) := by
 intro a0 a1 k
 have ih0 := varint_read.mono_l k
 unfold varint_read.f
 repeat' first
  |(with_reducible exact ih0 _ _ _ _)
  |(with_reducible exact LeO.refl _)
  |(with_reducible exact LeO.none _)
  |(with_reducible refine LeO.ite ?_ ?_)
  |(with_reducible refine LeO.bind ?_ (fun _ => ?_))
  |exact ih0 _ _ _ _
  |exact LeO.none _
  |refine LeO.ite ?_ ?_
  |refine LeO.bind ?_ (fun _ => ?_)
set_option maxHeartbeats 80000000 in
set_option maxRecDepth 100000 in
theorem varint_read.calls (k : Nat) (A0 : Option Addr) (c0 : Nat) (l0 : List Int) (a1 : Int) (r : Int) (w : World) (hr0 : Kd.C (Kd.int .u8) w A0 l0.length l0) (hc0 : l0.length ≤ c0) (h : varint_read.f k l0 a1 = some r) :
  Calls Try.prog 75 #[.slice A0 l0.length c0,.int .i64 a1] w fun e w'=>e = .returned (.int .u64 r)∧Drawn0 w w':=by
 have HR0 := Aside0.mk hr0
 have HC0 := Aside0.mk hc0
 clear hr0 hc0
 have H : (if (l0.length : Int) < a1 then (some 0) else (if 0 ≤ a1 then (if a1 ≤ (l0.length : Int) then ((some (l0.take (a1 : Int).toNat : List Int)).bind fun y196=>(varint_read.l0 k 0 y196 (y196.length : Int) 0)) else (none)) else (none))) = some r:=h
 clear h
 by_cases c3 : (l0.length : Int) < a1
 ·rw [if_pos c3] at H
  have c3b0 : decide ((l0.length : Int) < a1) = true := decide_eq_true c3
  clear c3
  obtain rfl := Option.some.inj H
  simp only [Option.some.injEq, Prod.mk.injEq] at H
  obtain ⟨rfl⟩ := H
  go_enter Try.func75, Try.ntmps75
  go_wp2
  go_ret
  exact ⟨by first | rfl|(simp; done)|(simp [*]; done), by repeat (first|exact Drawn0.refl _|apply Drawn0.step)⟩
 ·rw [if_neg c3] at H
  have c3b0 : decide ((l0.length : Int) < a1) = false := decide_eq_false c3
  clear c3
  by_cases c4 : 0 ≤ a1
  ·rw [if_pos c4] at H
   have c4b0 := eq_true c4
   have c4b1 : decide (0 ≤ a1) = true := decide_eq_true c4
   clear c4
   by_cases c5 : a1 ≤ (l0.length : Int)
   ·rw [if_pos c5] at H
    have c5b0 := eq_true c5
    have c5b1 : decide (a1 ≤ (l0.length : Int)) = true := decide_eq_true c5
    clear c5
    obtain ⟨y196, hy196⟩ : ∃ y_ : List Int, y_ = (l0.take (a1 : Int).toNat) := ⟨_, rfl⟩
    replace H : (varint_read.l0 k 0 y196 (y196.length : Int) 0) = some r:=by first|(rw [hy196];with_reducible exact H)|(have H2_:=(Option.bind_some _ _).symm.trans H;rw [hy196];with_reducible exact H2_)|(have H2_:=(Option.bind_some _ _).symm.trans H;with_reducible exact H2_) | with_reducible exact H|(rw [hy196];exact H)|exact H
    have Ny196 := Aside0.mk hy196
    clear hy196
    have H' := Aside0.mk H
    clear H
    have q6 : (a1 : Int) ≤ ((l0.length : Int) : Int):=of_decide_eq_true (by first|(with_reducible assumption) | assumption)
    obtain ⟨i06, hi06, _, hsz6, _⟩ := info_parts info5
    have hroom6 : l0.length ≤ c0 := HC0.out
    have hC6 : Kd.C (Kd.int .u8) _ A0 l0.length l0 := HR0.out
    have hcut6:=cut_to (P:=Try.prog) 43 5 .i64 Try.underlying43 hi06 A0 l0.length c0 a1 (of_decide_eq_true (by first|(with_reducible assumption) | assumption)) q6 hroom6
    have hr6 := Kd.C_take (m := (a1 : Int).toNat) hC6 (by omega)
    have hy6 : y196.length = (a1 : Int).toNat := (by rw [Ny196.out, List.length_take]; omega)
    rw [← Ny196.out] at hr6
    rw [← hy6] at hcut6
    have HR199 := Aside0.mk hr6
    have HC199 := Aside0.mk (show y196.length ≤ c0 from by omega)
    clear hr6 hC6 hroom6 hi06 hsz6
    have KY6 := Aside0.mk hy6
    clear hy6
    replace q6 := eq_true q6
    go_enter Try.func75, Try.ntmps75
    go_wp2
    go_loopg [5,16] k (fun kq v5 v16 w'=>∃ (x5_1 : Int) (x16_1 : Int),v5 = .int .u64 x5_1∧v16 = .int .i64 x16_1∧Aside0 (varint_read.l0 kq x5_1 y196 (y196.length : Int) x16_1 = some r)∧Aside0 (kq ≤ k)∧Drawn0 w w')
    case atStart=>exact ⟨(0),(0),(by first | rfl|(simp;done)|(simp [*];done)),(by first | rfl|(simp;done)|(simp [*];done)),H',⟨Nat.le_refl _⟩,by repeat (first|exact Drawn0.refl _|apply Drawn0.step)⟩
    case round =>
     clear H'
     try clear p2
     try clear c3
     try clear c3b0
     try clear c4
     try clear c4b0
     try clear c4b1
     try clear c5
     try clear c5b0
     try clear c5b1
     try clear q6
     try clear q6
     obtain ⟨x5_1, x16_1, rfl, rfl, HA, HK1, ⟨m1, rfl⟩⟩ := hrel
     cases gk with
     | zero => exact absurd HA.out (by simp [varint_read.l0])
     | succ k1 =>
      have H := HA.out
      clear HA
      simp only [varint_read.l0] at H
      by_cases c7 : x16_1 < (y196.length : Int)
      ·rw [if_pos c7] at H
       have c7b0 : decide (x16_1 < (y196.length : Int)) = true := decide_eq_true c7
       clear c7
       by_cases c8 : 0 ≤ x16_1
       ·rw [if_pos c8] at H
        have c8b0 : decide (0 ≤ x16_1) = true := decide_eq_true c8
        clear c8
        by_cases c9 : x16_1 < (y196.length : Int)
        ·rw [if_pos c9] at H
         have c9b0 : decide (x16_1 < (y196.length : Int)) = true := decide_eq_true c9
         clear c9
         obtain ⟨ji10, hji10⟩ : ∃ j_ : Int, (wrap64 (8 * x16_1)) = j_ := ⟨_, rfl⟩
         replace H : (if 0 ≤ (ji10) then (varint_read.l0 k1 (Go.bits .or .u64 x5_1 (shl .u64 (IntKind.u64.wrap (rd y196 x16_1)) (ji10))) y196 (y196.length : Int) (wrap64 (x16_1 + 1))) else (none)) = some r:=by first|(rw [hji10] at H;exact H)|(simp only [hji10] at H ⊢;exact H)
         have hji10w : (IntKind.i64.wrap (8 * x16_1)) = ji10 := (i64_w _).trans hji10
         by_cases c11 : 0 ≤ (ji10)
         ·rw [if_pos c11] at H
          have c11b0 := eq_true c11
          have c11b1 : decide (0 ≤ (ji10)) = true := decide_eq_true c11
          clear c11
          obtain ⟨ji12, hji12⟩ : ∃ j_ : Int, (shl .u64 (IntKind.u64.wrap (rd y196 x16_1)) (ji10)) = j_ := ⟨_, rfl⟩
          replace H : (varint_read.l0 k1 (Go.bits .or .u64 x5_1 (ji12)) y196 (y196.length : Int) (wrap64 (x16_1 + 1))) = some r:=by first|(rw [hji12] at H;exact H)|(simp only [hji12] at H ⊢;exact H)
          have hji12_ : (IntKind.u64.wrap ((IntKind.u64.wrap (rd y196 x16_1)) * 2 ^ min (ji10).toNat 64)) = ji12:=hji12
          have hji12z : (ji10) ≤ 64 → (IntKind.u64.wrap ((IntKind.u64.wrap (rd y196 x16_1)) * 2 ^ (ji10).toNat)) = ji12:=shl_small hji12
          have H' := Aside0.mk H
          clear H
          have p200 : 0 ≤ (x16_1 : Int) := of_decide_eq_true (by first|(with_reducible assumption) | assumption)
          have q200 : x16_1 < (y196.length : Int):=of_decide_eq_true (by first|(with_reducible assumption) | assumption)
          obtain ⟨ad200, e200, hx200_0⟩ := Kd.at_int HR199.out x16_1 p200 q200
          cases e200
          replace p200 := eq_true p200
          replace q200 := eq_true q200
          go_wp2
          go_roundg k1
          case measure => have := HK1.out; omega
          case rel=>exact ⟨(Go.bits .or .u64 x5_1 (ji12)),(wrap64 (x16_1 + 1)),(by first | rfl|(simp;done)|(simp only [← hji12] <;> (first | rfl | simp))|(simp [*];done)),(by first | rfl|(simp;done)|(simp [*];done)),H',⟨by have:=HK1.out;omega⟩,by repeat (first|exact Drawn0.refl _|apply Drawn0.step)⟩
         ·rw [if_neg c11] at H
          exact absurd H (by simp)
        ·rw [if_neg c9] at H
         exact absurd H (by simp)
       ·rw [if_neg c8] at H
        exact absurd H (by simp)
      ·rw [if_neg c7] at H
       have c7b0 : decide (x16_1 < (y196.length : Int)) = false := decide_eq_false c7
       clear c7
       obtain rfl := Option.some.inj H
       simp only [Option.some.injEq, Prod.mk.injEq] at H
       obtain ⟨rfl⟩ := H
       go_wp2
       go_ret
       exact ⟨by first | rfl|(simp; done)|(simp [*]; done), by repeat (first|exact Drawn0.refl _|apply Drawn0.step)⟩
   ·rw [if_neg c5] at H
    exact absurd H (by simp)
  ·rw [if_neg c4] at H
   exact absurd H (by simp)

/-! ### varint_Get64: function 54 -/
def varint_Get64.f (k : Nat) (l0 : List Int) : Option (Int) := (varint_read.f k l0 8).bind fun t201 => (some t201)
theorem varint_Get64.mono : ∀ a0 k, LeO (varint_Get64.f k a0) (varint_Get64.f (k + 1) a0) := by
 intro a0 k
 unfold varint_Get64.f
 repeat' first
  |(with_reducible exact varint_read.mono _ _ _)
  |(with_reducible exact LeO.refl _)
  |(with_reducible exact LeO.none _)
  |(with_reducible refine LeO.ite ?_ ?_)
  |(with_reducible refine LeO.bind ?_ (fun _ => ?_))
  |exact varint_read.mono _ _ _
  |exact LeO.none _
  |refine LeO.ite ?_ ?_
  |refine LeO.bind ?_ (fun _ => ?_)
set_option maxHeartbeats 80000000 in
set_option maxRecDepth 100000 in
theorem varint_Get64.calls (k : Nat) (A0 : Option Addr) (c0 : Nat) (l0 : List Int) (r : Int) (w : World) (hr0 : Kd.C (Kd.int .u8) w A0 l0.length l0) (hc0 : l0.length ≤ c0) (h : varint_Get64.f k l0 = some r) :
  Calls Try.prog 54 #[.slice A0 l0.length c0] w fun e w' => e = .returned (.int .u64 r) ∧ Drawn0 w w' := by
 have HR0 := Aside0.mk hr0
 have HC0 := Aside0.mk hc0
 clear hr0 hc0
 have H : ((varint_read.f k l0 8).bind fun t201 => (some t201)) = some r := h
 clear h
 replace H := Option.bind_eq_some_iff.mp H
 obtain ⟨t201, A20, H⟩ := H
 replace H : (some t201) = some r := H
 have A2 := Aside0.mk A20
 clear A20
 obtain rfl := Option.some.inj H
 simp only [Option.some.injEq, Prod.mk.injEq] at H
 obtain ⟨rfl⟩ := H
 go_enter Try.func54, Try.ntmps54
 go_wp2_with (first|((with_reducible refine gate_callee (f:=75) rfl ?_);refine goesL_ (some 4) rfl rfl Try.func75 (by kernel_rfl) rfl #[.slice A0 l0.length c0,.int .i64 8] rfl (by (try simp only [List.map_toArray,List.map_cons,List.map_nil]);first | done | rfl|(simp only [List.length_drop,List.length_take];rfl)) ?_;(with_reducible refine (varint_read.calls k _ _ l0 8 t201 _ ?side1 ?side2 A2.out).mono ?_);(case side1=>repeat (first|exact HR0.out|(with_reducible refine Kd.C_alloc ?_ _)|(with_reducible refine Kd.C_drewN ?_ _)|(with_reducible refine Kd.C_drew ?_)));(case side2=>exact HC0.out);rintro e w' ⟨rfl,⟨nd,rfl⟩⟩;refine ⟨_,rfl,?_⟩))
 go_ret
 exact ⟨by first | rfl|(simp; done)|(simp [*]; done), by repeat (first|exact Drawn0.refl _|apply Drawn0.step)⟩

/-! ### varint_Get32: function 55 -/
def varint_Get32.f (k : Nat) (l0 : List Int) : Option (Int):=(varint_read.f k l0 4).bind fun t202=>(some ((t202) % 4294967296))
theorem varint_Get32.mono : ∀ a0 k, LeO (varint_Get32.f k a0) (varint_Get32.f (k + 1) a0) := by
 intro a0 k
 unfold varint_Get32.f
 repeat' first
  |(with_reducible exact varint_read.mono _ _ _)
  |(with_reducible exact LeO.refl _)
  |(with_reducible exact LeO.none _)
  |(with_reducible refine LeO.ite ?_ ?_)
  |(with_reducible refine LeO.bind ?_ (fun _ => ?_))
  |exact varint_read.mono _ _ _
  |exact LeO.none _
  |refine LeO.ite ?_ ?_
  |refine LeO.bind ?_ (fun _ => ?_)
set_option maxHeartbeats 80000000 in
set_option maxRecDepth 100000 in
theorem varint_Get32.calls (k : Nat) (A0 : Option Addr) (c0 : Nat) (l0 : List Int) (r : Int) (w : World) (hr0 : Kd.C (Kd.int .u8) w A0 l0.length l0) (hc0 : l0.length ≤ c0) (h : varint_Get32.f k l0 = some r) :
  Calls Try.prog 55 #[.slice A0 l0.length c0] w fun e w' => e = .returned (.int .u32 r) ∧ Drawn0 w w' := by
 have HR0 := Aside0.mk hr0
 have HC0 := Aside0.mk hc0
 clear hr0 hc0
 have H : ((varint_read.f k l0 4).bind fun t202 => (some ((t202) % 4294967296))) = some r := h
 clear h
 replace H := Option.bind_eq_some_iff.mp H
 obtain ⟨t202, A20, H⟩ := H
 replace H : (some ((t202) % 4294967296)) = some r := H
 have A2 := Aside0.mk A20
 clear A20
 obtain rfl := Option.some.inj H
 simp only [Option.some.injEq, Prod.mk.injEq] at H
 obtain ⟨rfl⟩ := H
 go_enter Try.func55, Try.ntmps55
 go_wp2_with (first|((with_reducible refine gate_callee (f:=75) rfl ?_);refine goesL_ (some 4) rfl rfl Try.func75 (by kernel_rfl) rfl #[.slice A0 l0.length c0,.int .i64 4] rfl (by (try simp only [List.map_toArray,List.map_cons,List.map_nil]);first | done | rfl|(simp only [List.length_drop,List.length_take];rfl)) ?_;(with_reducible refine (varint_read.calls k _ _ l0 4 t202 _ ?side1 ?side2 A2.out).mono ?_);(case side1=>repeat (first|exact HR0.out|(with_reducible refine Kd.C_alloc ?_ _)|(with_reducible refine Kd.C_drewN ?_ _)|(with_reducible refine Kd.C_drew ?_)));(case side2=>exact HC0.out);rintro e w' ⟨rfl,⟨nd,rfl⟩⟩;refine ⟨_,rfl,?_⟩))
 go_ret
 exact ⟨by first | rfl|(simp; done)|(simp [*]; done), by repeat (first|exact Drawn0.refl _|apply Drawn0.step)⟩

end Go.Proofs.Ytenmljkddhonmaa.MTbl
