import Derived.Test.YtoglanahjlfihaaHLst16
import Derived.Test.YtoglanahjlfihaaHLst15
namespace Go.Proofs.Ytoglanahjlfihaa.MLst
open Go.RowKit Go.Proofs.Ytoglanahjlfihaa.QLst Go.Proofs.YtoglanahjlfihaaW.PrintWords Go.Proofs.YtoglanahjlfihaaW.PrintLast Go.Proofs.YtoglanahjlfihaaW.PrintMore
set_option linter.unusedVariables false
set_option linter.unusedSimpArgs false
theorem lett_conv {W : World} {i g : Nat} (h : W.heap[g]? = some (.cells #[Value.int IntKind.u8 (97 + (i : Int))] 5 (0, 0))) : (convert 28 9 (.slice (some ⟨g, 0, none⟩) 1 1)).run Try.prog W = .ok (.string (lett i)) W := by
  refine run_convert_bytes_arg _ 28 5 Try.underlying28 Try.underlying5 g 0 1 1 [97 + (i : Int)] rfl (fun j hj => ?_) 9 Try.underlying9
  have h0 : j = 0 := by have hj : j < 1 := hj; omega
  subst h0
  show W.cell? ⟨g, 0, none⟩ = _
  rw [blk_cell h 0]; rfl
theorem LO.set26 {w0 w : World} {g gb : Nat} {hd : Nd S30} {tl : List (Nd S30)} {hs : List Int} {size : Int} {cs : Array Value} (h : LO w0 w g hd tl hs size) (hb : w.heap[gb]? = some (.cells cs 26 (0, 0))) (hge : w0.heap.size ≤ gb) (j : Nat) (v : Value) : LO w0 (w.setCell ⟨gb, j, none⟩ v) g hd tl hs size := by
  obtain ⟨G, vh, hL, hB, _⟩ := id h
  refine h.kept (S := fun k => k = gb) (Kept.setCell (S := fun k => k = gb) (p := ⟨gb, j, none⟩) (Kept.refl w _) (.inl rfl) v) (below_set hB hge) (fun i hi => ?_)
  subst hi
  exact ⟨fun e => (blk_ne hb hL.blk (by decide)) e, fun y hy e => (blk_ne hb (hL.nodes y hy).2 (by decide)) e, _, _, hb, by decide, by decide⟩
theorem bools_set {w : World} {gb : Nat} {On : List Bool} (h : w.heap[gb]? = some (.cells ((On.map Value.bool).toArray) 26 (0, 0))) (b : Nat) (v : Bool) : (w.setCell ⟨gb, b, none⟩ (.bool v)).heap[gb]? = some (.cells (((On.set b v).map Value.bool).toArray) 26 (0, 0)) := by
  rw [blk_set h b (.bool v), List.setIfInBounds_toArray, List.map_set]
theorem bools_cell {w : World} {gb : Nat} {On : List Bool} (h : w.heap[gb]? = some (.cells ((On.map Value.bool).toArray) 26 (0, 0))) {p : Nat} (hp : p < On.length) : w.cell? ⟨gb, p, none⟩ = some (.bool (On.getD p false)) := by
  rw [blk_cell h p, List.getElem?_toArray, List.getElem?_map, List.getD_eq_getElem?_getD, List.getElem?_eq_getElem hp]; rfl
def hts : List Int := [1, 5, 2, 8, 3, 1, 1, 4]
set_option maxHeartbeats 8000000 in
set_option maxRecDepth 100000 in
theorem incipitlaw14_ListVersions.calls (keys versions step seq : Int) (w : World) : Calls Try.prog 3 #[.int .i64 keys, .int .i64 versions, .int .i64 step, .int .i64 seq] w fun e w' => e = .returned (.bool true) ∧ Below w.heap.size w w' := by
  go_enter Try.func3, Try.ntmps3
  go_upto_region 1 with (fail)
  go_cut [9] (fun s9 wc => s9 = .bool true ∧ Aside0 (Below w.heap.size w wc))
  case first =>
    go_wp2_with (fail)
    refine (incipitlaw14_begun.calls w).mono ?_
    rintro e w1 ⟨rfl, hb⟩
    have HB := Aside0.mk hb
    clear hb
    go_wp2_with (fail)
    go_meet
    case rel => exact ⟨rfl, HB⟩
  case rest =>
    obtain ⟨rfl, HB⟩ := hcut
    obtain ⟨wr, hwr⟩ : ∃ wr, wr = wc := ⟨_, rfl⟩
    subst hwr
    by_cases c1 : keys < 1
    · have c1a : (keys < 1) = True := eq_true c1
      go_wp2_with (fail)
      go_ret
      exact ⟨rfl, HB.out⟩
    have c1a : (keys < 1) = False := eq_false c1
    by_cases c2 : 12 < keys
    · have c2a : (12 < keys) = True := eq_true c2
      go_wp2_with (fail)
      go_ret
      exact ⟨rfl, HB.out⟩
    have c2a : (12 < keys) = False := eq_false c2
    by_cases c3 : versions < 1
    · have c3a : (versions < 1) = True := eq_true c3
      go_wp2_with (fail)
      go_ret
      exact ⟨rfl, HB.out⟩
    have c3a : (versions < 1) = False := eq_false c3
    by_cases c4 : 12 < versions
    · have c4a : (12 < versions) = True := eq_true c4
      go_wp2_with (fail)
      go_ret
      exact ⟨rfl, HB.out⟩
    have c4a : (12 < versions) = False := eq_false c4
    by_cases c5 : step < 1
    · have c5a : (step < 1) = True := eq_true c5
      go_wp2_with (fail)
      go_ret
      exact ⟨rfl, HB.out⟩
    have c5a : (step < 1) = False := eq_false c5
    by_cases c6 : 500 < step
    · have c6a : (500 < step) = True := eq_true c6
      go_wp2_with (fail)
      go_ret
      exact ⟨rfl, HB.out⟩
    have c6a : (500 < step) = False := eq_false c6
    obtain ⟨k, rfl⟩ := Int.eq_ofNat_of_zero_le (show 0 ≤ keys by omega)
    obtain ⟨V, rfl⟩ := Int.eq_ofNat_of_zero_le (show 0 ≤ versions by omega)
    obtain ⟨st, rfl⟩ := Int.eq_ofNat_of_zero_le (show 0 ≤ step by omega)
    have hk1 : 0 < k := by omega
    have hk2 : k ≤ 12 := by omega
    have hV1 : 0 < V := by omega
    have hV2 : V ≤ 12 := by omega
    have hst1 : 0 < st := by omega
    have hst2 : st ≤ 500 := by omega
    clear c1 c2 c3 c4 c5 c6
    obtain ⟨n, hn⟩ : ∃ n, n = k * V := ⟨_, rfl⟩
    have hn1 : 0 < n := by rw [hn]; exact Nat.mul_pos hk1 hV1
    have hn2 : n ≤ 144 := by rw [hn]; exact Nat.mul_le_mul hk2 hV2
    have hnw : IntKind.i64.wrap ((k : Int) * (V : Int)) = (n : Int) := by rw [← Int.natCast_mul, ← hn, IntKind.wrap_i64]; omega
    have HN := Aside0.mk hn
    clear hn
    go_wp2_with (fail)
    have HB1 : Aside0 (Below w.heap.size w (wr.alloc (Obj.cells #[.int .i64 1, .int .i64 5, .int .i64 2, .int .i64 8, .int .i64 3, .int .i64 1, .int .i64 1, .int .i64 4] 3))) := ⟨below_alloc HB.out _⟩
    have HC1 : Aside0 (Kd.C (Kd.int .i64) (wr.alloc (Obj.cells #[.int .i64 1, .int .i64 5, .int .i64 2, .int .i64 8, .int .i64 3, .int .i64 1, .int .i64 1, .int .i64 4] 3)) (some ⟨wr.heap.size, 0, none⟩) hts.length hts) := ⟨C_lit (xs := hts) (blk_new wr _) (by decide)⟩
    refine (list_New.calls w _ (some ⟨wr.heap.size, 0, none⟩) 8 hts HB1.out HC1.out (by decide) (by decide)).mono ?_
    rintro e w2 ⟨g, hd, rfl, hO, hb, hg, hnn⟩
    have HO2 := Aside0.mk hO
    clear hO hb hg hnn HB HB1 HC1
    go_upto_region 9 with (fail)
    go_cut [13] (fun s13 wd => ∃ gb, s13 = .pointer (some ⟨gb, 0, none⟩) ∧ Aside0 (w.heap.size ≤ gb) ∧ Aside0 (LO w wd g hd [] hts 0) ∧ Aside0 (wd.heap[gb]? = some (.cells (((List.replicate 144 false).map Value.bool).toArray) 26 (0, 0))))
    case first =>
      go_wp2_with (fail)
      go_meet
      case rel => exact ⟨w2.heap.size, rfl, ⟨HO2.out.base.size⟩, ⟨HO2.out.below (below_alloc (Below.refl _ _) _)⟩, ⟨blk_new w2 _⟩⟩
    case rest =>
    clear HO2
    obtain ⟨gb, rfl, HGB, HO, HBL⟩ := hcut
    obtain ⟨wr, hwr⟩ : ∃ wr, wr = wc := ⟨_, rfl⟩
    subst hwr
    have hnz1 : ((n : Int) = 0) = False := eq_false (by omega)
    have hnz2 : ((n : Int) == 0) = false := beq_eq_false_iff_ne.2 (by omega)
    have hkz1 : ((k : Int) = 0) = False := eq_false (by omega)
    have hkz3 : (k = 0) = False := eq_false (by omega)
    have hnz3 : (n = 0) = False := eq_false (by omega)
    have hkz2 : ((k : Int) == 0) = false := beq_eq_false_iff_ne.2 (by omega)
    go_wp2_with (fail)
    go_loopg [12, 14] n (fun kq s12 s14 wr => ∃ (i a : Nat) (tl : List (Nd S30)) (sz : Int) (On : List Bool), s12 = .int .i64 a ∧ s14 = .int .i64 i ∧ i + kq = n ∧ a < n ∧ On.length = 144 ∧ Aside0 (LO w wr g hd tl hts sz) ∧ Aside0 (0 ≤ sz ∧ sz ≤ (i : Int) * 1000) ∧ Aside0 (Holds k n On (tl.map Nd.e)) ∧ Aside0 (Srt (tl.map Nd.e) ∧ Kn (tl.map Nd.e) ∧ tl.length ≤ i) ∧ Aside0 (wr.heap[gb]? = some (.cells ((On.map Value.bool).toArray) 26 (0, 0))))
    case atStart => exact ⟨0, 0, [], 0, List.replicate 144 false, rfl, rfl, by omega, hn1, by simp, HO, ⟨by omega⟩, ⟨Holds.start k n 144⟩, ⟨List.Pairwise.nil, (fun x hx => by cases hx), Nat.le_refl _⟩, HBL⟩
    case round =>
      clear HO HBL
      obtain ⟨i, a, tl, sz, On, rfl, rfl, hi, han, hOn, HO, HSZ, HH, HS, HBL⟩ := hrel
      cases gk with
      | zero =>
        have hia : ((i : Int) < (n : Int)) = False := eq_false (by omega)
        have hib : (i < n) = False := eq_false (by omega)
        have hin : i = n := by omega
        subst hin
        go_wp2_with (fail)
        go_loopg [16] k (fun kq s16 wq => ∃ (q : Nat), s16 = .int .i64 q ∧ q + kq = k ∧ Aside0 (LO w wq g hd tl hts sz) ∧ Aside0 (wq.heap[gb]? = some (.cells ((On.map Value.bool).toArray) 26 (0, 0))))
        case atStart => exact ⟨0, rfl, by omega, HO, HBL⟩
        case round =>
          clear HO HBL
          obtain ⟨q, rfl, hqk, HO, HBL⟩ := hrel
          cases gk with
          | zero =>
            have hqa : ((q : Int) < (k : Int)) = False := eq_false (by omega)
            have hqb : (q < k) = False := eq_false (by omega)
            go_wp2_with (fail)
            go_ret
            exact ⟨rfl, HO.out.base⟩
          | succ k2 =>
            have hqa : ((q : Int) < (k : Int)) = True := eq_true (by omega)
            have hqb : (q < k) = True := eq_true (by omega)
            obtain ⟨f, hf⟩ : ∃ f : Nat → Bool, Aside0 (f = fun v => On.getD (v * k + q) false) := ⟨_, ⟨rfl⟩⟩
            have HH3 : Aside0 (Holds k (k * V) On (tl.map Nd.e)) := ⟨by have h_ := HH.out; rw [HN.out] at h_; exact h_⟩
            have HH2 := Aside0.mk (HH3.out.get (seq := seq) HS.out.1 HS.out.2.1 hk1 hk2 (show q < k by omega))
            rw [← hf.out] at HH2
            go_wp2_with (fail)
            go_loopg [17, 18] V (fun kq s17 s18 wz => ∃ (v : Nat), s17 = .int .i64 ((wantN f seq v : Nat) : Int) ∧ s18 = .int .i64 v ∧ v + kq = V ∧ Aside0 (LO w wz g hd tl hts sz) ∧ Aside0 (wz.heap[gb]? = some (.cells ((On.map Value.bool).toArray) 26 (0, 0))))
            case atStart => exact ⟨0, rfl, rfl, by omega, HO, HBL⟩
            case round =>
              clear HO HBL
              obtain ⟨v, rfl, rfl, hvV, HO, HBL⟩ := hrel
              have hvle := wantN_le f seq v
              cases gk with
              | zero =>
                have hva : ((v : Int) < (V : Int)) = False := eq_false (by omega)
                have hvb : (v < V) = False := eq_false (by omega)
                have hvV2 : v = V := by omega
                subst hvV2
                obtain ⟨wn, hwn⟩ : ∃ wn, Aside0 (wn = wantN f seq v) := ⟨_, ⟨rfl⟩⟩
                rw [← hwn.out] at HH2 hvle ⊢
                have hw5 : IntKind.i64.wrap (97 + (q : Int)) = 97 + (q : Int) := by rw [IntKind.wrap_i64]; omega
                have hw6 : IntKind.u8.wrap (97 + (q : Int)) = 97 + (q : Int) := by rw [IntKind.wrap_u8]; omega
                have hconv := lett_conv (i := q) (blk_new wr (Obj.cells #[Value.int IntKind.u8 (97 + (q : Int))] 5))
                have hqw : IntKind.i64.wrap ((q : Int) + 1) = ((q + 1 : Nat) : Int) := by rw [IntKind.wrap_i64]; omega
                clear hwn
                go_wp2_with (fail)
                refine (list_Get.calls w _ g hd tl hts sz (lett q) seq (HO.out.below (below_alloc (Below.refl _ _) _)) HS.out.1).mono ?_
                rintro e w7 ⟨rfl, hb⟩
                have HO7 := Aside0.mk ((HO.out.below (below_alloc (Below.refl _ _) _)).below hb)
                have HBL7 := Aside0.mk (blk_below (blk_alloc HBL.out _) hb)
                have hh2 := HH2.out
                clear hb HH2 HO HBL
                cases hget : getE (tl.map Nd.e) (lett q) seq with
                | none =>
                  rw [hget] at hh2
                  have hwz : wn = 0 := hh2
                  subst hwz
                  rw [show resG none = .tuple #[.agg #[.string ⟨#[]⟩, .int .i64 0, .int .i64 0, .string ⟨#[]⟩, .string ⟨#[]⟩], .bool false] from rfl]
                  clear hget hh2
                  have hbx := blk_new w7 (Obj.cells #[.string ⟨#[]⟩, .int .i64 0, .int .i64 0, .string ⟨#[]⟩, .string ⟨#[]⟩] 30)
                  have hbx1 : (w7.alloc (Obj.cells #[.string ⟨#[]⟩, .int .i64 0, .int .i64 0, .string ⟨#[]⟩, .string ⟨#[]⟩] 30)).cell? ⟨w7.heap.size, 1, none⟩ = some (.int .i64 0) := by rw [blk_cell hbx 1]; rfl
                  clear hbx
                  go_wp2_with (fail)
                  go_roundg k2
                  case measure => omega
                  case rel => exact ⟨q + 1, by push_cast; rfl, by omega, ⟨HO7.out.below (below_alloc (Below.refl _ _) _)⟩, ⟨blk_alloc HBL7.out _⟩⟩
                | some x =>
                  rw [hget] at hh2
                  have hx1 : x.f1 = ((wn : Nat) : Int) ∧ 0 < wn := hh2
                  obtain ⟨hx1, hwp⟩ := hx1
                  rw [show resG (some x) = .tuple #[.agg #[.string x.f0, .int .i64 x.f1, .int .i64 x.f2, .string x.f3, .string x.f4], .bool true] from rfl]
                  rw [hx1]
                  have hwpa : ((0 : Int) < (wn : Int)) = True := eq_true (by omega)
                  have hwpb : (0 < wn) = True := eq_true hwp
                  clear hget hh2 hx1
                  have hbx := blk_new w7 (Obj.cells #[.string x.f0, .int .i64 (wn : Int), .int .i64 x.f2, .string x.f3, .string x.f4] 30)
                  have hbx1 : (w7.alloc (Obj.cells #[.string x.f0, .int .i64 (wn : Int), .int .i64 x.f2, .string x.f3, .string x.f4] 30)).cell? ⟨w7.heap.size, 1, none⟩ = some (.int .i64 (wn : Int)) := by rw [blk_cell hbx 1]; rfl
                  clear hbx
                  go_wp2_with (fail)
                  go_roundg k2
                  case measure => omega
                  case rel => exact ⟨q + 1, by push_cast; rfl, by omega, ⟨HO7.out.below (below_alloc (Below.refl _ _) _)⟩, ⟨blk_alloc HBL7.out _⟩⟩
              | succ k3 =>
                have hva : ((v : Int) < (V : Int)) = True := eq_true (by omega)
                have hvb : (v < V) = True := eq_true (by omega)
                have hvk : v * k + q < i := by
                  rw [HN.out]
                  have : (v + 1) * k ≤ V * k := Nat.mul_le_mul_right k (by omega)
                  rw [Nat.add_mul, Nat.one_mul] at this
                  rw [Nat.mul_comm k V]
                  omega
                obtain ⟨p, hp⟩ : ∃ p, Aside0 (p = v * k + q) := ⟨_, ⟨rfl⟩⟩
                have hpn : p < i := by rw [hp.out]; exact hvk
                have hp0 : ((0 : Int) ≤ (p : Int)) = True := eq_true (by omega)
                have hp1 : ((p : Int) < 144) = True := eq_true (by omega)
                have hp2 : (p < 144) = True := eq_true (by omega)
                have hm : v * k ≤ 144 := by omega
                have hpi : (v : Int) * (k : Int) + (q : Int) = (p : Int) := by rw [hp.out]; push_cast; rfl
                have hm2 : 0 ≤ (v : Int) * (k : Int) ∧ (v : Int) * (k : Int) ≤ 144 := by rw [← Int.natCast_mul]; omega
                have hw1 : IntKind.i64.wrap ((v : Int) * (k : Int)) = (v : Int) * (k : Int) := by
                  obtain ⟨h1, h2⟩ := hm2
                  generalize (v : Int) * (k : Int) = z at *
                  rw [IntKind.wrap_i64]; omega
                have hw2 : IntKind.i64.wrap ((v : Int) * (k : Int) + (q : Int)) = (p : Int) := by rw [hpi, IntKind.wrap_i64]; omega
                have hw2b : wrap64 ((v : Int) * (k : Int) + (q : Int)) = (p : Int) := by rw [hpi]; exact wrap64_id (by omega) (by omega)
                clear hpi hm2
                have hw3 : IntKind.i64.wrap ((v : Int) + 1) = (v : Int) + 1 := by rw [IntKind.wrap_i64]; omega
                have hfv2 : f v = On.getD p false := by rw [hf.out, hp.out]
                have hcp : wr.cell? ⟨gb, p, none⟩ = some (.bool (f v)) := by rw [hfv2]; exact bools_cell HBL.out (by rw [hOn]; exact Nat.lt_of_lt_of_le hpn hn2)
                clear hfv2
                clear hvk hm
                cases hfv : f v with
                | false =>
                  rw [hfv] at hcp
                  have hwt : wantN f seq (v + 1) = wantN f seq v := by rw [wantN, if_neg (by rw [hfv]; simp)]
                  have HWT := Aside0.mk hwt
                  generalize wantN f seq v = wn at *
                  clear hwt hfv
                  go_wp2_with (fail)
                  go_roundg k3
                  case measure => omega
                  case rel => exact ⟨v + 1, by rw [HWT.out], by push_cast; rfl, by omega, HO, HBL⟩
                | true =>
                  rw [hfv] at hcp
                  by_cases hle : ((v : Int) + 1) ≤ seq
                  · have hlea : ((v : Int) + 1 ≤ seq) = True := eq_true hle
                    have hwt : wantN f seq (v + 1) = v + 1 := by
                      rw [wantN, if_pos ⟨hfv, by push_cast; exact hle⟩]
                    have HWT := Aside0.mk hwt
                    generalize wantN f seq v = wn at *
                    clear hwt hfv hle
                    go_wp2_with (fail)
                    go_roundg k3
                    case measure => omega
                    case rel => exact ⟨v + 1, by first | (rw [HWT.out]; push_cast; rfl) | rw [HWT.out], by push_cast; rfl, by omega, HO, HBL⟩
                  · have hlea : ((v : Int) + 1 ≤ seq) = False := eq_false hle
                    have hwt : wantN f seq (v + 1) = wantN f seq v := by
                      rw [wantN, if_neg (fun hh => hle (by have := hh.2; push_cast at this; exact this))]
                    have HWT := Aside0.mk hwt
                    generalize wantN f seq v = wn at *
                    clear hwt hfv hle
                    go_wp2_with (fail)
                    go_roundg k3
                    case measure => omega
                    case rel => exact ⟨v + 1, by first | (rw [HWT.out]; push_cast; rfl) | rw [HWT.out], by push_cast; rfl, by omega, HO, HBL⟩
      | succ kk =>
        -- <<
        have hia : ((i : Int) < (n : Int)) = True := eq_true (by omega)
        have hib : (i < n) = True := eq_true (by omega)
        obtain ⟨b, hb⟩ : ∃ b, Aside0 (b = (a + st) % n) := ⟨_, ⟨rfl⟩⟩
        have hbn : b < n := by rw [hb.out]; exact Nat.mod_lt _ hn1
        have hw1 : IntKind.i64.wrap ((a : Int) + (st : Int)) = (a : Int) + (st : Int) := by rw [IntKind.wrap_i64]; omega
        have hw2 : ((a : Int) + (st : Int)).tmod (n : Int) = (b : Int) := by
          rw [Int.tmod_eq_emod_of_nonneg (by omega), hb.out]; push_cast; rfl
        obtain ⟨q, hq⟩ : ∃ q, Aside0 (q = b % k) := ⟨_, ⟨rfl⟩⟩
        obtain ⟨d, hd_⟩ : ∃ d, Aside0 (d = b / k) := ⟨_, ⟨rfl⟩⟩
        have hqk : q < k := by rw [hq.out]; exact Nat.mod_lt _ hk1
        have hdk : d ≤ 144 := by rw [hd_.out]; exact Nat.le_trans (Nat.div_le_self _ _) (by omega)
        have hw3 : (b : Int).tmod (k : Int) = (q : Int) := by rw [Int.tmod_eq_emod_of_nonneg (by omega), hq.out]; push_cast; rfl
        have hw4 : (b : Int).tdiv (k : Int) = (d : Int) := by rw [Int.tdiv_eq_ediv_of_nonneg (by omega), hd_.out]; push_cast; rfl
        have hw5 : IntKind.i64.wrap (97 + (q : Int)) = 97 + (q : Int) := by rw [IntKind.wrap_i64]; omega
        have hw6 : IntKind.u8.wrap (97 + (q : Int)) = 97 + (q : Int) := by rw [IntKind.wrap_u8]; omega
        have hw7 : IntKind.i64.wrap ((d : Int) + 1) = (d : Int) + 1 := by rw [IntKind.wrap_i64]; omega
        have hw8 : IntKind.i64.wrap ((i : Int) + 1) = ((i + 1 : Nat) : Int) := by rw [IntKind.wrap_i64]; omega
        have hwq : IntKind.i64.wrap (q : Int) = (q : Int) := by rw [IntKind.wrap_i64]; omega
        have hwb : IntKind.i64.wrap (b : Int) = (b : Int) := by rw [IntKind.wrap_i64]; omega
        have hwd : IntKind.i64.wrap (d : Int) = (d : Int) := by rw [IntKind.wrap_i64]; omega
        have HE : Aside0 ((⟨lett q, (d : Int) + 1, 1, ⟨#[]⟩, ⟨#[]⟩⟩ : S30) = entK k b) := ⟨by unfold entK; rw [hq.out, hd_.out]; rfl⟩
        have hconv := lett_conv (i := q) (blk_drew (blk_new wr (Obj.cells #[Value.int IntKind.u8 (97 + (q : Int))] 5)))
        go_upto_region 14 with (fail)
        go_cut [15] (fun s15 wd => ∃ (tl' : List (Nd S30)) (hv : Bool) (sz' : Int), s15 = .bool (!hv) ∧ Aside0 (hv = has (tl.map Nd.e) (entK k b).f0 (entK k b).f1) ∧ Aside0 (tl'.map Nd.e = putL (tl.map Nd.e) (entK k b)) ∧ Aside0 (LO w wd g hd tl' hts sz') ∧ Aside0 (0 ≤ sz' ∧ sz' ≤ ((i + 1 : Nat) : Int) * 1000) ∧ Aside0 (wd.heap[gb]? = some (.cells ((On.map Value.bool).toArray) 26 (0, 0))))
        case first =>
          go_region_law (first | (go_simp; go_at_call 17; have hbb : Aside0 (Below wr.heap.size wr ((wr.alloc (Obj.cells #[Value.int IntKind.u8 (97 + (q : Int))] 5)).drew)) := ⟨below_drew1 (below_alloc (Below.refl _ _) _)⟩; (with_reducible refine (list_Put.calls w _ g hd tl hts sz ⟨lett q, (d : Int) + 1, 1, ⟨#[]⟩, ⟨#[]⟩⟩ (HO.out.below hbb.out) HS.out.1 HS.out.2.1 (by have := HS.out.2.2; omega) (by decide) HSZ.out.1 (by have := HSZ.out.2; omega) (by show (lett q).size + (⟨#[]⟩ : ByteArray).size + (⟨#[]⟩ : ByteArray).size < 1000000000; rw [lett_size]; decide)).mono ?_); rintro e w5 ⟨tl5, rfl, htl5, hO5, hk5, _⟩; have HT5 := Aside0.mk htl5; have HO5 := Aside0.mk hO5; have HK5 := Aside0.mk hk5; clear htl5 hO5 hk5))
          all_goals
            have hbb2 := hbb.out
            have HO6 := HO5.out
            generalize hsz6 : (if has (tl.map Nd.e) (lett q) ((d : Int) + 1) = true then sz else sz + (((lett q).size : Int) + ((⟨#[]⟩ : ByteArray).size : Int) + ((⟨#[]⟩ : ByteArray).size : Int) + 32)) = sz6 at HO6
            have hls := lett_size q
            have hHT := HT5.out
            rw [HE.out] at hHT
            have e0 : (⟨#[]⟩ : ByteArray).size = 0 := rfl
            rw [hls, e0] at hsz6
            have HSZ6 : Aside0 (0 ≤ sz6 ∧ sz6 ≤ ((i + 1 : Nat) : Int) * 1000) := ⟨by have := HSZ.out; split at hsz6 <;> omega⟩
            have HO7 := Aside0.mk HO6
            have HHT := Aside0.mk hHT
            clear hsz6 HO6 hHT hls e0 hbb2
            go_wp2_with (fail)
            go_meet
            case rel => exact ⟨tl5, has (tl.map Nd.e) (lett q) ((d : Int) + 1), sz6, rfl, ⟨by rw [← HE.out]⟩, HHT, HO7, HSZ6, ⟨blk_kept (blk_drew (blk_alloc HBL.out _)) HK5.out (fun hf => by
              obtain ⟨cs, t, h1, h2⟩ := HO.out.foot hf
              exact (blk_ne HBL.out h1 (by rcases h2 with rfl | rfl <;> decide)) rfl)⟩⟩
        case rest =>
          clear HO HBL hconv hw1 hw2 hw3 hw4 hw5 hw6 hw7 hwq hwd HSZ
          obtain ⟨tl2, hv, sz2, rfl, HV, HT2, HO2, HSZ2, HBL2⟩ := hcut
          obtain ⟨wx, hwx⟩ : ∃ wx, wx = wc := ⟨_, rfl⟩
          subst hwx
          have hb144 : b < 144 := by omega
          have hbon : On.getD b false = hv := by rw [HV.out]; exact HH.out.1 b hbn
          have hcb : wx.cell? ⟨gb, b, none⟩ = some (.bool hv) := by
            rw [blk_cell HBL2.out b, List.getElem?_toArray, List.getElem?_map, ← hbon, List.getD_eq_getElem?_getD, List.getElem?_eq_getElem (by omega)]; rfl
          have hfb := blk_frozen HBL2.out b
          have hvv : ((!hv) == hv) = false := by cases hv <;> rfl
          have hb0 : ((0 : Int) ≤ (b : Int)) = True := eq_true (by omega)
          have hb1 : ((b : Int) < 144) = True := eq_true (by omega)
          have hb2 : (b < 144) = True := eq_true hb144
          have HBN := Aside0.mk hbon
          clear hbon
          go_wp2_with (fail)
          go_roundg kk
          case measure => omega
          case rel => exact ⟨i + 1, b, tl2, sz2, On.set b true, rfl, rfl, by omega, hbn, by rw [List.length_set]; exact hOn, ⟨HO2.out.set26 HBL2.out HGB.out b _⟩, HSZ2, ⟨by rw [HT2.out]; exact HH.out.put hk1 hk2 hbn (by omega)⟩, ⟨by
            have h1 := HS.out
            rw [HT2.out]
            refine ⟨putL_srt h1.1, putL_kn h1.2.1 (by show (1 : Int) ≤ maxK; decide), ?_⟩
            have h2 := congrArg List.length HT2.out
            rw [List.length_map] at h2
            have h3 := putL_len (tl.map Nd.e) (entK k b)
            rw [List.length_map] at h3
            have h4 := h1.2.2
            omega⟩, ⟨bools_set HBL2.out b true⟩⟩
        -- >>
end Go.Proofs.Ytoglanahjlfihaa.MLst
