import Derived.Test.YtoglanahjlfihaaHLst16
import Derived.Test.YtoglanahjlfihaaHLst15
namespace Go.Proofs.Ytoglanahjlfihaa.MLst
open Go.RowKit Go.Proofs.Ytoglanahjlfihaa.QLst Go.Proofs.YtoglanahjlfihaaW.PrintWords Go.Proofs.YtoglanahjlfihaaW.PrintLast Go.Proofs.YtoglanahjlfihaaW.PrintMore
set_option linter.unusedVariables false
set_option linter.unusedSimpArgs false
theorem lett_conv2 {W : World} {i g : Nat} (h : W.heap[g]? = some (.cells #[Value.int IntKind.u8 (97 + (i : Int))] 5 (0, 0))) : (convert 28 9 (.slice (some ⟨g, 0, none⟩) 1 1)).run Try.prog W = .ok (.string (lett i)) W := by
  refine run_convert_bytes_arg _ 28 5 Try.underlying28 Try.underlying5 g 0 1 1 [97 + (i : Int)] rfl (fun j hj => ?_) 9 Try.underlying9
  have h0 : j = 0 := by have hj : j < 1 := hj; omega
  subst h0
  show W.cell? ⟨g, 0, none⟩ = _
  rw [blk_cell h 0]; rfl
def hts3 : List Int := [3, 1, 2]
theorem It.below {w w' : World} {i g : Nat} {a : Option Nat} (h : It w i g a) (hb : Below w.heap.size w w') : It w' i g a := blk_below h hb
theorem quiet_lit {P : Program} {C : World → Prop} {id : Nat} {Q : Exit → Act → World → Prop} {a : Act} {w : World} {l : List Oper} (hm : P.follows .mixedOrders = true) (hB : Region.lexB .any l.toArray = true) (hC : C w.drew)
    (h : wpQuiet P l.toArray C (fun a' => ∀ w', C w' → Q .normal a' w') l a) : (Code.region id l.toArray true).wp P Q a w :=
  wp_region_quiet (C := C) hm hB hC (by simpa using h)
theorem own30 {W : World} {base : Nat} {ok : Nat → Prop} {v : Value} {l : List S30} (h : Kd.R k30 30 W base ok v l) {k : Nat} (hk : v.ownBlock = some k) : ∃ cs, W.heap[k]? = some (.cells cs 30 (0, 0)) := by
  obtain ⟨hok, inner, hown, hr⟩ := h
  exact own_typed hown k hk
theorem LO.grown {w0 W W2 : World} {g : Nat} {hd : Nd S30} {tl : List (Nd S30)} {hs : List Int} {size : Int} {base : Nat} {ok : Nat → Prop} {v : Value} {l : List S30} (h : LO w0 W g hd tl hs size) (hR : Kd.R k30 30 W base ok v l) (hg : W.grownBy W2 v.ownBlock) (hB : Below w0.heap.size w0 W2) : LO w0 W2 g hd tl hs size := by
  obtain ⟨G, vh, hL, _⟩ := id h
  refine h.kept (S := fun k => v.ownBlock = some k) ⟨hg.size, fun i hi hn => hg.block i hi (fun he => hn he.symm)⟩ hB (fun i hi => ?_)
  obtain ⟨cs, hc⟩ := own30 hR hi
  exact ⟨fun e => by subst e; exact (blk_ne hc hL.blk (by decide)) rfl, fun y hy e => by subst e; exact (blk_ne hc (hL.nodes y hy).2 (by decide)) rfl, _, _, hc, by decide, by decide⟩
theorem It.grown {W W2 : World} {i g : Nat} {a : Option Nat} {base : Nat} {ok : Nat → Prop} {v : Value} {l : List S30} (h : It W i g a) (hR : Kd.R k30 30 W base ok v l) (hg : W.grownBy W2 v.ownBlock) : It W2 i g a :=
  blk_grown h hg (fun e => by
    obtain ⟨cs, hc⟩ := own30 hR e.symm
    exact (blk_ne hc h (by decide)) rfl)
set_option maxHeartbeats 8000000 in
set_option maxRecDepth 100000 in
theorem incipitlaw14_ListBoth.calls (nn : Int) (w : World) : Calls Try.prog 8 #[.int .i64 nn] w fun e w' => e = .returned (.bool true) ∧ Below w.heap.size w w' := by
  go_enter Try.func8, Try.ntmps8
  go_upto_region 1 with (fail)
  go_cut [3] (fun s3 wc => s3 = .bool true ∧ Aside0 (Below w.heap.size w wc))
  case first =>
    go_wp2_with (fail)
    refine (incipitlaw14_begun.calls w).mono ?_
    rintro e w1 ⟨rfl, hb⟩
    have HB := Aside0.mk hb
    clear hb
    go_wp2_with (fail)
    go_meet
    case rel => exact ⟨rfl, HB⟩
  case rest =>
    obtain ⟨rfl, HB⟩ := hcut
    obtain ⟨wr, hwr⟩ : ∃ wr, wr = wc := ⟨_, rfl⟩
    subst hwr
    by_cases c1 : nn < 0
    · have c1a : (nn < 0) = True := eq_true c1
      go_wp2_with (fail)
      go_ret
      exact ⟨rfl, HB.out⟩
    have c1a : (nn < 0) = False := eq_false c1
    by_cases c2 : 60 < nn
    · have c2a : (60 < nn) = True := eq_true c2
      go_wp2_with (fail)
      go_ret
      exact ⟨rfl, HB.out⟩
    have c2a : (60 < nn) = False := eq_false c2
    obtain ⟨n, rfl⟩ := Int.eq_ofNat_of_zero_le (show 0 ≤ nn by omega)
    have hn : n ≤ 60 := by omega
    clear c1 c2
    go_wp2_with (fail)
    have HB1 : Aside0 (Below w.heap.size w (wr.alloc (Obj.cells #[.int .i64 3, .int .i64 1, .int .i64 2] 3))) := ⟨below_alloc HB.out _⟩
    have HC1 : Aside0 (Kd.C (Kd.int .i64) (wr.alloc (Obj.cells #[.int .i64 3, .int .i64 1, .int .i64 2] 3)) (some ⟨wr.heap.size, 0, none⟩) hts3.length hts3) := ⟨C_lit (xs := hts3) (blk_new wr _) (by decide)⟩
    refine (list_New.calls w _ (some ⟨wr.heap.size, 0, none⟩) 3 hts3 HB1.out HC1.out (by decide) (by decide)).mono ?_
    rintro e w2 ⟨g, hd, rfl, hO, hb, hg, hnn⟩
    have HO2 := Aside0.mk hO
    clear hO hb hg hnn HB HB1 HC1
    go_wp2_with (fail)
    go_loopg [5] n (fun kq s5 wr => ∃ (i : Nat) (tl : List (Nd S30)) (sz : Int), s5 = .int .i64 i ∧ i + kq = n ∧ tl.length = i ∧ Aside0 (LO w wr g hd tl hts3 sz) ∧ Aside0 (0 ≤ sz ∧ sz ≤ (i : Int) * 1000) ∧ Aside0 (Srt (tl.map Nd.e) ∧ Kn (tl.map Nd.e) ∧ ∀ x ∈ tl.map Nd.e, x.f1 ≤ (i : Int)))
    case atStart => exact ⟨0, [], 0, rfl, by omega, rfl, HO2, ⟨by omega⟩, ⟨List.Pairwise.nil, (fun x hx => by cases hx), (fun x hx => by cases hx)⟩⟩
    case round =>
      clear HO2
      obtain ⟨i, tl, sz, rfl, hi, htl, HO, HSZ, HS⟩ := hrel
      cases gk with
      | zero =>
        have hia : ((i : Int) < (n : Int)) = False := eq_false (by omega)
        have hib : (i < n) = False := eq_false (by omega)
        go_wp2_with (fail)
        have hin : i = n := by omega
        subst hin
        refine (list_Iter.calls wr g).mono ?_
        rintro e w3 ⟨it, rfl, hit, hI, hb⟩
        have HO3 := Aside0.mk (HO.out.below hb)
        have HI3 := Aside0.mk hI
        have hwi : w.heap.size ≤ it := Nat.le_trans HO.out.base.size hit
        clear hb hI hit HO
        go_wp2_with (fail)
        refine (iter_First.calls w w3 g it hd tl hts3 sz none HO3.out HI3.out).mono ?_
        rintro e w4 ⟨rfl, hw4⟩
        have HI4 : Aside0 (It w4 it g (tl.head?.map Nd.b)) := ⟨by rw [hw4]; exact blk_set HI3.out 1 _⟩
        have HB4 : Aside0 (Below w.heap.size w w4) := ⟨by rw [hw4]; exact below_set HO3.out.base hwi⟩
        have HO4 := Aside0.mk (HO3.out.it_kept HI3.out (by rw [hw4]; exact Kept.setCell (S := fun k => k = it) (p := ⟨it, 1, none⟩) (Kept.refl w3 _) (.inl rfl) _) HB4.out)
        clear hw4 HO3 HI3 HB4
        go_wp2_with (fail)
        go_loopg [7] tl.length (fun kq s7 wr => ∃ (a c : List (Nd S30)) (A : Option Addr) (cc : Nat), s7 = .slice A a.length cc ∧ tl = a ++ c ∧ c.length = kq ∧ Aside0 (It wr it g (c.head?.map Nd.b)) ∧ Aside0 (LO w wr g hd tl hts3 sz) ∧ Aside0 (Kd.R k30 30 wr w.heap.size (fun _ => True) (.slice A a.length cc) (a.map Nd.e)))
        case atStart => exact ⟨[], tl, none, 0, rfl, rfl, rfl, HI4, HO4, ⟨Kd.R_nil _ _ _ _ _⟩⟩
        case round =>
          clear HI4 HO4
          obtain ⟨a, c, A, cc, rfl, hac, hcl, HI, HO, HR⟩ := hrel
          cases c with
          | nil =>
            have hk : gk = 0 := by simpa using hcl.symm
            subst hk
            have hal : a = tl := by rw [hac, List.append_nil]
            subst hal
            clear hac
            go_wp2_with (fail)
            refine (iter_OK.calls wr g it none HI.out).mono ?_
            rintro e w5 ⟨rfl, rfl⟩
            rw [show (none : Option Nat).isSome = false from rfl]
            go_wp2_with (fail)
            refine (iter_Last.calls w w5 g it hd a hts3 sz none HO.out HI.out hwi).mono ?_
            rintro e w6 ⟨rfl, hI, hk6, hb6⟩
            have HI6 := Aside0.mk hI
            have HO6 := Aside0.mk (HO.out.it_kept HI.out hk6 hb6)
            have HR6 := Aside0.mk (rows30_kept HR.out hk6 (fun j hj => by subst hj; exact ⟨_, _, HI.out, by decide⟩))
            clear hI hk6 hb6 HI HO HR
            go_wp2_with (fail)
            go_loopg [8] a.length (fun kq s8 wr => ∃ (p c : List (Nd S30)), s8 = .int .i64 p.length ∧ a = p ++ c ∧ p.length = kq ∧ Aside0 (It wr it g (p.getLast?.map Nd.b)) ∧ Aside0 (LO w wr g hd a hts3 sz) ∧ Aside0 (Kd.R k30 30 wr w.heap.size (fun _ => True) (.slice A a.length cc) (a.map Nd.e)))
            case atStart => exact ⟨a, [], by rw [htl], by rw [List.append_nil], rfl, HI6, HO6, HR6⟩
            case round =>
              clear HI6 HO6 HR6
              obtain ⟨p, c, rfl, hpc, hpl, HI, HO, HR⟩ := hrel
              rcases List.eq_nil_or_concat p with hp | ⟨p2, y, hp⟩
              · subst hp
                have hk : gk = 0 := by simpa using hpl.symm
                subst hk
                go_wp2_with (fail)
                refine (iter_OK.calls wr g it none HI.out).mono ?_
                rintro e w7 ⟨rfl, rfl⟩
                rw [show (none : Option Nat).isSome = false from rfl]
                have hlen : (a.length : Int) = (i : Int) := by rw [htl]
                have hlen2 : ((a.length : Int) == (i : Int)) = true := by rw [htl]; exact beq_self_eq_true _
                go_wp2_with (fail)
                go_ret
                exact ⟨rfl, HO.out.base⟩
              · rw [List.concat_eq_append] at hp
                subst hp
                obtain ⟨k2, rfl⟩ : ∃ k2, gk = k2 + 1 := ⟨p2.length, by rw [← hpl]; simp⟩
                have hp2 : p2.length = k2 := by simpa using hpl
                have HI2 : Aside0 (It wr it g (some y.b)) := ⟨by have h_ := HI.out; rw [List.getLast?_concat] at h_; exact h_⟩
                have HAC : Aside0 (a = p2 ++ y :: c) := ⟨by rw [hpc]; simp⟩
                have hplt : p2.length < a.length := by rw [HAC.out]; simp
                obtain ⟨G, hG⟩ := HO.out.node
                have hGy := hG y (by rw [HAC.out]; simp)
                obtain ⟨ad, e5, g0, g1, _⟩ := at_T30 (Kd.R_reads' HR.out).2.2 (p2.length : Int) (by omega) (by rw [List.length_map]; omega)
                subst e5
                have hrd : rd_T30 (a.map Nd.e) (p2.length : Int) = y.e := by
                  rw [rd_nat30 _ _ (by rw [List.length_map]; exact hplt), List.getElem_map]
                  congr 1
                  rw [List.getElem_of_eq HAC.out]
                  simp
                rw [Int.toNat_natCast, hrd] at g0 g1
                have hpi : p2.length < i := by omega
                have HP2 := Aside0.mk hp2
                have GA : Aside0 (∀ W', Below wr.heap.size wr W' → W'.cell? (ad.add (p2.length * 5)) = some (.string y.e.f0) ∧ W'.cell? ⟨(ad.add (p2.length * 5)).block, (ad.add (p2.length * 5)).off + 1, none⟩ = some (.int .i64 y.e.f1)) := ⟨fun W' hb => ⟨pw_cell_below hb g0, pw_cell_below hb g1⟩⟩
                have GN : Aside0 (∀ W', Below wr.heap.size wr W' → It W' it g (some y.b) ∧ NdB W' G y) := ⟨fun W' hb => ⟨HI2.out.below hb, hGy.below hb⟩⟩
                have hq0 : ((0 : Int) ≤ (p2.length : Int)) = True := eq_true (by omega)
                have hq1 : ((p2.length : Int) < (i : Int)) = True := eq_true (by omega)
                have hq2 : (p2.length < i) = True := eq_true hpi
                have hq3 : ((p2.length : Int) < 0) = False := eq_false (by omega)
                have hw1 : IntKind.i64.wrap ((p2.length : Int) + 1 - 1) = (p2.length : Int) := by rw [IntKind.wrap_i64]; omega
                have hw2 : IntKind.i64.wrap (p2.length : Int) = (p2.length : Int) := by rw [IntKind.wrap_i64]; omega
                have hfd0 := field30_0 y.e.f0 y.e.f1 y.e.f2 y.e.f3 y.e.f4
                have hfd1 := field30_1 y.e.f0 y.e.f1 y.e.f2 y.e.f3 y.e.f4
                clear hp2 hrd hGy hG hpl hpc HI hpi hplt
                go_wp2_with (fail)
                refine (iter_OK.calls wr g it (some y.b) HI2.out).mono ?_
                rintro e w7 ⟨rfl, rfl⟩
                rw [show (some y.b).isSome = true from rfl]
                go_wp2_with (fail)
                go_cut [85] (fun s85 wd => s85 = .bool false ∧ Aside0 (Below w7.heap.size w7 wd))
                case first =>
                  refine quiet_lit (C := fun w' => Below w7.heap.size w7 w') (by kernel_rfl) (by kernel_rfl) (below_drew1 (Below.refl _ _)) ?_
                  repeat (first | go_big_quiet_skip | (go_big_quiet_want; go_big_quiet_op; go_big_quiet_on) | (refine wpQuiet_step (fun K hK => ?_); go_simp; refine ⟨_, fun w' hw' => rfl, hK _ ?_⟩; clear hK K))
                  refine wpQuiet_step (fun K hK => ?_)
                  go_simp
                  refine ⟨.string y.e.f0, fun w' hw' => ?_, hK _ ?_⟩
                  · have h0 := (GA.out w' hw').1
                    go_simp
                  clear hK K
                  repeat (first | go_big_quiet_skip | (go_big_quiet_want; go_big_quiet_op; go_big_quiet_on) | (refine wpQuiet_step (fun K hK => ?_); go_simp; refine ⟨_, fun w' hw' => rfl, hK _ ?_⟩; clear hK K))
                  refine wpQuiet_step (fun K hK => ?_)
                  go_simp
                  refine ⟨.agg #[.string y.e.f0, .int .i64 y.e.f1, .int .i64 y.e.f2, .string y.e.f3, .string y.e.f4], fun w' hw' => ?_, hK _ ?_⟩
                  · exact (iter_Entry.calls w' g it y G (GN.out w' hw').1 (GN.out w' hw').2).mono (fun e w'' hh => ⟨hh.1, below_step hw' hh.2⟩)
                  clear hK K
                  repeat (first | go_big_quiet_skip | (go_big_quiet_want; go_big_quiet_op; go_big_quiet_on) | (refine wpQuiet_step (fun K hK => ?_); go_simp; refine ⟨_, fun w' hw' => rfl, hK _ ?_⟩; clear hK K))
                  refine wpQuiet_step (fun K hK => ?_)
                  go_simp
                  refine ⟨.int .i64 y.e.f1, fun w' hw' => ?_, hK _ ?_⟩
                  · have h0 := (GA.out w' hw').2
                    go_simp
                  clear hK K
                  repeat (first | go_big_quiet_skip | (go_big_quiet_want; go_big_quiet_op; go_big_quiet_on) | (refine wpQuiet_step (fun K hK => ?_); go_simp; refine ⟨_, fun w' hw' => rfl, hK _ ?_⟩; clear hK K))
                  refine wpQuiet_step (fun K hK => ?_)
                  go_simp
                  refine ⟨.agg #[.string y.e.f0, .int .i64 y.e.f1, .int .i64 y.e.f2, .string y.e.f3, .string y.e.f4], fun w' hw' => ?_, hK _ ?_⟩
                  · exact (iter_Entry.calls w' g it y G (GN.out w' hw').1 (GN.out w' hw').2).mono (fun e w'' hh => ⟨hh.1, below_step hw' hh.2⟩)
                  clear hK K
                  repeat (first | go_big_quiet_skip | (go_big_quiet_want; go_big_quiet_op; go_big_quiet_on) | (refine wpQuiet_step (fun K hK => ?_); go_simp; refine ⟨_, fun w' hw' => rfl, hK _ ?_⟩; clear hK K))
                  refine wpQuiet_nil ?_
                  intro wz hwz
                  go_wp2_with (fail)
                  go_meet
                  case rel => exact ⟨rfl, ⟨hwz⟩⟩
                case rest =>
                  obtain ⟨rfl, HBd⟩ := hcut
                  obtain ⟨wx, hwx⟩ : ∃ wx, wx = wc := ⟨_, rfl⟩
                  subst hwx
                  have HO8 := Aside0.mk (HO.out.below HBd.out)
                  have HI8 : Aside0 (It wx it g (some y.b)) := ⟨HI2.out.below HBd.out⟩
                  have HR8 := Aside0.mk (Kd.R_below HR.out HBd.out)
                  have hsa : Srt (a.map Nd.e) := HS.out.1
                  clear HO HI2 HR GA GN g0 g1 HBd
                  go_wp2_with (fail)
                  refine (iter_Prev.calls w wx g it hd a p2 c y hts3 sz HO8.out HI8.out hwi hsa HAC.out).mono ?_
                  rintro e w9 ⟨rfl, hI, hk9, hb9⟩
                  have HI9 := Aside0.mk hI
                  have HO9 := Aside0.mk (HO8.out.it_kept HI8.out hk9 hb9)
                  have HR9 := Aside0.mk (rows30_kept HR8.out hk9 (fun j hj => by subst hj; exact ⟨_, _, HI8.out, by decide⟩))
                  clear hI hk9 hb9 hsa HO8 HI8 HR8
                  go_wp2_with (fail)
                  go_roundg k2
                  case measure => omega
                  case rel => exact ⟨p2, y :: c, rfl, HAC.out, HP2.out, HI9, HO9, HR9⟩
          | cons y c2 =>
            obtain ⟨k2, rfl⟩ : ∃ k2, gk = k2 + 1 := ⟨c2.length, by rw [← hcl]; rfl⟩
            have HI2 : Aside0 (It wr it g (some y.b)) := ⟨HI.out⟩
            obtain ⟨G, hG⟩ := HO.out.node
            have HN := Aside0.mk (hG y (by rw [hac]; simp))
            have hal : a.length ≤ 60 := by have := congrArg List.length hac; rw [List.length_append] at this; omega
            clear hG HI
            go_wp2_with (fail)
            refine (iter_OK.calls wr g it (some y.b) HI2.out).mono ?_
            rintro e w5 ⟨rfl, rfl⟩
            rw [show (some y.b).isSome = true from rfl]
            go_wp2_with (fail)
            refine (iter_Entry.calls w5 g it y G HI2.out HN.out).mono ?_
            rintro e w6 ⟨rfl, hb⟩
            have HI6 := Aside0.mk (HI2.out.below hb)
            have HO6 := Aside0.mk (HO.out.below hb)
            have HR6 := Aside0.mk (Kd.R_below HR.out hb)
            have HAC := Aside0.mk hac
            clear hb HI2 HO HR HN hac
            go_wp2_with (first | ((with_reducible refine gate_builtin (b := .append) (xs := #[.tmp 47, .tmp 50]) rfl ?_); at_builtin; refine Kd.R_append k30 (w0 := w) (W := w6) w.heap.size rfl (.tmp 47) (.tmp 50) 34 30 (.agg #[.string ⟨#[]⟩, .int .i64 0, .int .i64 0, .string ⟨#[]⟩, .string ⟨#[]⟩]) 64 rfl Try.underlying34 info30 rfl (by decide) (by omega) (.slice A a.length cc) (a.map Nd.e) y.e [.string y.e.f0, .int .i64 y.e.f1, .int .i64 y.e.f2, .string y.e.f3, .string y.e.f4] (fun _ => True) (fun _ => False) rfl rfl ?aP (fun k hk => hk.elim) ?aF ?aO ?aB ?aS ?aL ?_; (case aP => exact k30_mkM _ _ _ _); (case aF => exact (fun _ _ => trivial)); (case aO => exact HR6.out); (case aB => exact HO6.out.base); (case aS => exact HO6.out.base.size); (case aL => (rw [List.length_map]; omega)); intro v5 w8 ho hb5 hg5 hat5; obtain ⟨A8, c8, e8⟩ := Kd.R_slice ho; subst e8; have HR8 := Aside0.mk ho; have HO8 := Aside0.mk (HO6.out.grown HR6.out hg5 hb5); have HI8 := Aside0.mk (HI6.out.grown HR6.out hg5); clear ho hb5 hg5 hat5))
            refine (iter_Next.calls w w8 g it hd tl (hd :: a) c2 y hts3 sz HO8.out HI8.out (by rw [HAC.out, List.cons_append])).mono ?_
            rintro e w9 ⟨rfl, hw9⟩
            have HI9 : Aside0 (It w9 it g (c2.head?.map Nd.b)) := ⟨by rw [hw9]; exact blk_set HI8.out 1 _⟩
            have hk9 : Kept w8 w9 (fun k => k = it) := by rw [hw9]; exact Kept.setCell (S := fun k => k = it) (p := ⟨it, 1, none⟩) (Kept.refl w8 _) (.inl rfl) _
            have HO9 := Aside0.mk (HO8.out.it_kept HI8.out hk9 (by rw [hw9]; exact below_set HO8.out.base hwi))
            have HR9 := Aside0.mk (rows30_kept HR8.out hk9 (fun j hj => by subst hj; exact ⟨_, _, HI8.out, by decide⟩))
            clear hw9 hk9 HI8 HO8 HR8 HI6 HO6 HR6
            go_wp2_with (fail)
            go_roundg k2
            case measure => omega
            case rel => exact ⟨a ++ [y], c2, A8, c8, by first | rfl | simp, by rw [HAC.out]; simp, by simpa using hcl, HI9, HO9, ⟨by rw [List.map_append, List.length_append, List.length_singleton]; have h_ := HR9.out; rw [List.length_append, List.length_map, List.length_singleton] at h_; exact h_⟩⟩
      | succ kk =>
        have hia : ((i : Int) < (n : Int)) = True := eq_true (by omega)
        have hib : (i < n) = True := eq_true (by omega)
        obtain ⟨q, hq⟩ : ∃ q, Aside0 (q = i * 7 % 26) := ⟨_, ⟨rfl⟩⟩
        have hq26 : q < 26 := by rw [hq.out]; exact Nat.mod_lt _ (by decide)
        have hw1 : IntKind.i64.wrap ((i : Int) * 7) = (i : Int) * 7 := by rw [IntKind.wrap_i64]; omega
        have hw2 : ((i : Int) * 7).tmod 26 = (q : Int) := by
          rw [Int.tmod_eq_emod_of_nonneg (by omega), hq.out]; push_cast; rfl
        have hwq : IntKind.i64.wrap (q : Int) = (q : Int) := by rw [IntKind.wrap_i64]; omega
        have hw5 : IntKind.i64.wrap (97 + (q : Int)) = 97 + (q : Int) := by rw [IntKind.wrap_i64]; omega
        have hw6 : IntKind.u8.wrap (97 + (q : Int)) = 97 + (q : Int) := by rw [IntKind.wrap_u8]; omega
        have hw7 : IntKind.i64.wrap ((i : Int) + 1) = (i : Int) + 1 := by rw [IntKind.wrap_i64]; omega
        have hconv := lett_conv2 (i := q) (blk_new wr (Obj.cells #[Value.int IntKind.u8 (97 + (q : Int))] 5))
        go_wp2_with (fail)
        obtain ⟨hS1, hS2, hS3⟩ := HS.out
        have hhas : has (tl.map Nd.e) (lett q) ((i : Int) + 1) = false := by
          cases hh : has (tl.map Nd.e) (lett q) ((i : Int) + 1) with
          | false => rfl
          | true =>
            obtain ⟨x, hx, _, h1⟩ := has_iff.1 hh
            have := hS3 x hx
            omega
        have HHAS := Aside0.mk hhas
        clear hhas
        refine (list_Put.calls w _ g hd tl hts3 sz ⟨lett q, (i : Int) + 1, 0, ⟨#[]⟩, ⟨#[]⟩⟩ (HO.out.below (below_alloc (Below.refl _ _) _)) hS1 hS2 (by omega) (by decide) HSZ.out.1 (by have := HSZ.out.2; omega) (by show (lett q).size + (⟨#[]⟩ : ByteArray).size + (⟨#[]⟩ : ByteArray).size < 1000000000; rw [lett_size]; decide)).mono ?_
        rintro e w5 ⟨tl5, rfl, htl5, hO5, hk5, _⟩
        have hput : tl5.map Nd.e = insE (tl.map Nd.e) ⟨lett q, (i : Int) + 1, 0, ⟨#[]⟩, ⟨#[]⟩⟩ := by
          rw [htl5]
          unfold putL
          rw [if_neg (by show ¬ has (tl.map Nd.e) (lett q) ((i : Int) + 1) = true; rw [HHAS.out]; decide)]
        have hl5 : tl5.length = i + 1 := by
          have := congrArg List.length hput
          rw [List.length_map, insE_len, List.length_map] at this
          omega
        have HS5 : Aside0 (Srt (tl5.map Nd.e) ∧ Kn (tl5.map Nd.e) ∧ ∀ x ∈ tl5.map Nd.e, x.f1 ≤ ((i + 1 : Nat) : Int)) := ⟨by
          refine ⟨by rw [htl5]; exact putL_srt hS1, by rw [htl5]; exact putL_kn hS2 (by show (0 : Int) ≤ maxK; decide), fun x hx => ?_⟩
          rw [hput] at hx
          rcases mem_insE.1 hx with rfl | hx
          · show (i : Int) + 1 ≤ _; push_cast; exact Int.le_refl _
          · have := hS3 x hx; push_cast; omega⟩
        have hO6 : LO w w5 g hd tl5 hts3 (if has (tl.map Nd.e) (lett q) ((i : Int) + 1) = true then sz else sz + (((lett q).size : Int) + ((⟨#[]⟩ : ByteArray).size : Int) + ((⟨#[]⟩ : ByteArray).size : Int) + 32)) := hO5
        rw [HHAS.out, if_neg (by decide), lett_size, show (⟨#[]⟩ : ByteArray).size = 0 from rfl] at hO6
        have HO6 := Aside0.mk hO6
        clear hO5 hO6 hk5 htl5 hput hS1 hS2 hS3 HHAS
        go_wp2_with (fail)
        go_roundg kk
        case measure => omega
        case rel => exact ⟨i + 1, tl5, _, by push_cast; rfl, by omega, hl5, HO6, ⟨by have := HSZ.out; push_cast; omega⟩, HS5⟩
end Go.Proofs.Ytoglanahjlfihaa.MLst
