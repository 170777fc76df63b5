import Derived.Test.YtoglanahjlfihaaHBlk13
import Derived.Test.YtoglanahjlfihaaHBlk15
import Derived.Test.YtoglanahjlfihaaQBlkRFix
import Derived.Test.YtoglanahjlfihaaQBlkRPut
namespace Go.Proofs.Ytoglanahjlfihaa.MBlk
open Go.RowKit Go.Proofs.Ytoglanahjlfihaa.QBlk Go.Proofs.YtoglanahjlfihaaW.PrintWords Go.Proofs.YtoglanahjlfihaaW.PrintLast Go.Proofs.YtoglanahjlfihaaW.PrintMore
set_option linter.unusedVariables false
set_option linter.unusedSimpArgs false
/-- A row of the reference's as one of the program's. -/
def cv (x : S70) : S68 := ⟨x.f0, x.f1⟩
/-- Two rows of bytes of the call's own, apart. -/
def Two (w0 w : World) (vb ve : Value) (b e : List Int) : Prop := Below w0.heap.size w0 w ∧ Kd.R (Kd.int .u8) 5 w w0.heap.size (fun _ => True) vb b ∧ Kd.R (Kd.int .u8) 5 w w0.heap.size (fun _ => True) ve e ∧ (∀ k, vb.ownBlock = some k → ve.ownBlock ≠ some k)
theorem Two.below {w0 w w1 : World} {vb ve : Value} {b e : List Int} (h : Two w0 w vb ve b e) (hb : Below w.heap.size w w1) : Two w0 w1 vb ve b e := ⟨below_step h.1 hb, Kd.R_below h.2.1 hb, Kd.R_below h.2.2.1 hb, h.2.2.2⟩
theorem Two.app_b {w0 w w1 : World} {vb ve v1 : Value} {b e b1 : List Int} (h : Two w0 w vb ve b e) (h1 : Kd.R (Kd.int .u8) 5 w1 w0.heap.size (fun _ => True) v1 b1) (hB : Below w0.heap.size w0 w1) (hg : w.grownBy w1 vb.ownBlock) (hat : v1.ownBlock = vb.ownBlock ∨ ∃ k, v1.ownBlock = some k ∧ w.heap.size ≤ k) : Two w0 w1 v1 ve b1 e :=
  ⟨hB, h1, R_beside h.2.2.1 hg (ne_sym h.2.2.2), ne_after (Kd.R_lt h.2.2.1) hat h.2.2.2⟩
theorem Two.app_e {w0 w w1 : World} {vb ve v1 : Value} {b e e1 : List Int} (h : Two w0 w vb ve b e) (h1 : Kd.R (Kd.int .u8) 5 w1 w0.heap.size (fun _ => True) v1 e1) (hB : Below w0.heap.size w0 w1) (hg : w.grownBy w1 ve.ownBlock) (hat : v1.ownBlock = ve.ownBlock ∨ ∃ k, v1.ownBlock = some k ∧ w.heap.size ≤ k) : Two w0 w1 vb v1 b e1 :=
  ⟨hB, R_beside h.2.1 hg h.2.2.2, h1, ne_sym (ne_after (Kd.R_lt h.2.1) hat (ne_sym h.2.2.2))⟩
set_option maxHeartbeats 8000000 in
set_option maxRecDepth 100000 in
theorem incipitref12_Block.calls (A0 : Option Addr) (c0 : Nat) (L : List S70) (w : World) (hr0 : Kd.C k70 w A0 L.length L) (hc0 : L.length ≤ c0) (M : Nat) (hM : M ≤ 60000) (hf : ∀ x ∈ L, x.f0.size + x.f1.size ≤ M) (hl : L.length ≤ 30000) :
    Calls Try.prog 44 #[.slice A0 L.length c0] w fun e w' => ∃ v, e = .returned v ∧ Kd.R (Kd.int .u8) 5 w' w.heap.size (fun _ => True) v (addTs St0 (L.map cv)).out ∧ Below w.heap.size w w' := by
  have HR := Aside0.mk hr0
  have HF := Aside0.mk hf
  clear hr0 hf
  go_enter Try.func44, Try.ntmps44
  go_wp2_with (fail)
  go_loopg [3, 4, 5, 6] L.length (fun kq s3 s4 s5 s6 wr => ∃ (i : Nat) (s : St) (A3 A4 : Option Addr) (c3 c4 : Nat), s3 = .slice A3 s.b.length c3 ∧ s4 = .slice A4 s.p.length c4 ∧ s5 = .int .i64 (s.p.length / 4 : Nat) ∧ s6 = .int .i64 i ∧ i + kq = L.length ∧ Aside0 (s = addTs St0 ((L.take i).map cv)) ∧ s.rows = i ∧ s.b.length ≤ (30 + M) * i ∧ s.p.length ≤ 4 * i ∧ s.p.length % 4 = 0 ∧ Aside0 (Two w wr (.slice A3 s.b.length c3) (.slice A4 s.p.length c4) s.b s.p))
  case atStart => exact ⟨0, St0, none, none, 0, 0, rfl, rfl, rfl, rfl, by omega, ⟨rfl⟩, rfl, Nat.zero_le _, Nat.zero_le _, rfl, ⟨Below.refl _ _, Kd.R_nil _ _ _ _ _, Kd.R_nil _ _ _ _ _, fun k hk => by simp [Value.ownBlock] at hk⟩⟩
  case round =>
    obtain ⟨i, s, A3, A4, c3, c4, rfl, rfl, rfl, rfl, hi, HS, hsr, hsb, hsp, hs4, HT⟩ := hrel
    have hM2 : (30 + M) * i ≤ 60030 * i := Nat.mul_le_mul_right _ (by omega)
    have hlim : s.b.length ≤ 1800900000 ∧ s.p.length ≤ 120000 := by omega
    cases gk with
    | zero =>
      have hit : ((i : Int) < (L.length : Int)) = False := eq_false (by omega)
      have hit2 : (i < L.length) = False := eq_false (by omega)
      have hse : addTs St0 (L.map cv) = s := by
        have h_ := HS.out
        rw [show L.take i = L from List.take_of_length_le (by omega)] at h_
        exact h_.symm
      obtain ⟨KF, hKF⟩ := rFixed_ev (s.p.length / 4) 4 (by decide)
      have HKF := Aside0.mk (hKF KF (Nat.le_refl _))
      clear hKF
      go_wp2_with (first | ((with_reducible refine gate_builtin (b := .append) (xs := #[.tmp 104, .tmp 105]) rfl ?_); at_builtin; refine Kd.R_append_rows (Kd.int .u8) (w0 := w) (W := wr) w.heap.size rfl (.tmp 104) (.tmp 105) 28 5 (.int .u8 0) 1 rfl Try.underlying28 info5 rfl (by decide) (by omega) (.slice A3 s.b.length c3) s.b s.p A4 s.p.length c4 (fun _ => True) (fun _ => False) rfl rfl ?aO ?aR (fun _ _ h => h) (fun _ h => h.elim) ?aF ?aB ?aS ?aL ?_; (case aO => exact HT.out.2.1); (case aR => exact (Kd.R_reads' HT.out.2.2.1).2.2); (case aF => exact (fun _ _ => trivial)); (case aB => exact HT.out.1); (case aS => exact below_size HT.out.1); (case aL => omega); intro v2 x2 ho2 hb2 hg2 hat2; obtain ⟨B2, d2, e2⟩ := Kd.R_slice ho2; obtain ⟨n2, hn2⟩ : ∃ n2, Aside0 (n2 = (s.b ++ s.p).length) := ⟨_, ⟨rfl⟩⟩; rw [← hn2.out] at e2; subst e2; have HO2 := Aside0.mk ho2; have HB2 := Aside0.mk hb2; clear ho2 hb2 hg2 hat2))
      have hq := incipitref1_Fixed.calls KF ((s.p.length / 4 : Nat) : Int) 4 (fix (s.p.length / 4) 4) x2 HKF.out
      refine hq.mono ?_
      rintro e x3 ⟨v3, rfl, ho, hb⟩
      obtain ⟨B3, d3, e3⟩ := Kd.R_slice ho
      subst e3
      have HO3 := Aside0.mk (Kd.R_below HO2.out hb)
      have HB3 := Aside0.mk (below_step HB2.out hb)
      have HP3 := Aside0.mk (Kd.R_reads' ho).2.2
      clear ho hb HT HO2 HB2 hq HKF
      go_wp2_with (first | ((with_reducible refine gate_builtin (b := .append) (xs := #[.tmp 106, .tmp 109]) rfl ?_); at_builtin; refine Kd.R_append_rows (Kd.int .u8) (w0 := w) (W := x3) w.heap.size rfl (.tmp 106) (.tmp 109) 28 5 (.int .u8 0) 1 rfl Try.underlying28 info5 rfl (by decide) (by omega) (.slice B2 n2 d2) (s.b ++ s.p) (fix (s.p.length / 4) 4) B3 (fix (s.p.length / 4) 4).length d3 (fun _ => True) (fun _ => False) rfl rfl ?aO ?aR (fun _ _ h => h) (fun _ h => h.elim) ?aF ?aB ?aS ?aL ?_; (case aO => exact HO3.out); (case aR => exact HP3.out); (case aF => exact (fun _ _ => trivial)); (case aB => exact HB3.out); (case aS => exact below_size HB3.out); (case aL => rw [List.length_append, fix_length]; omega); intro v4 x4 ho2 hb2 hg2 hat2; have HO4 := Aside0.mk ho2; have HB4 := Aside0.mk hb2; clear ho2 hb2 hg2 hat2))
      go_ret
      rw [hse]
      exact ⟨_, rfl, HO4.out, HB4.out⟩
    | succ kk =>
      have hit : ((i : Int) < (L.length : Int)) = True := eq_true (by omega)
      have hit2 : (i < L.length) = True := eq_true (by omega)
      have hi0 : ((0 : Int) ≤ (i : Int)) = True := eq_true (by omega)
      have htk : L.take (i + 1) = L.take i ++ [rd_T70 L (i : Int)] := by
        unfold rd_T70
        rw [Int.toNat_natCast, List.take_succ_eq_append_getElem (by omega), List.getD_eq_getElem?_getD, List.getElem?_eq_getElem (by omega)]; rfl
      have hmem : rd_T70 L (i : Int) ∈ L := by
        have h_ : rd_T70 L (i : Int) ∈ L.take (i + 1) := by rw [htk]; simp
        exact List.mem_of_mem_take h_
      have hfy := HF.out _ hmem
      obtain ⟨y, hy⟩ : ∃ y, Aside0 (rd_T70 L (i : Int) = y) := ⟨_, ⟨rfl⟩⟩
      rw [hy.out] at htk hfy
      by_cases h4 : i % 4 = 0
      · have h4b : ((i : Int).tmod 4 == 0) = true := by rw [Int.tmod_eq_emod_of_nonneg (by omega), beq_iff_eq]; omega
        have h4c : ((i : Int) % 4 == 0) = true := by rw [beq_iff_eq]; omega
        have h4d : (i % 4 = 0) = True := eq_true h4
        go_wp2_with (fail)
        obtain ⟨KF, hKF⟩ := rFixed_ev s.b.length 4 (by decide)
        have HKF := Aside0.mk (hKF KF (Nat.le_refl _))
        obtain ⟨ad, rfl, _⟩ := at_T70 HR.out (i : Int) (by omega) (by omega)
        have hcell : Aside0 (∀ W : World, Below w.heap.size w W → W.cell? (ad.add (i * 2)) = some (.string y.f0) ∧ W.cell? ⟨(ad.add (i * 2)).block, (ad.add (i * 2)).off + 1, none⟩ = some (.string y.f1)) := ⟨fun W hB => by
          obtain ⟨ad2, e, g0, g1⟩ := at_T70 (Kd.C_below HR.out hB) (i : Int) (by omega) (by omega)
          injection e with e
          subst e
          rw [hy.out, Int.toNat_natCast] at g0
          rw [hy.out] at g1
          simp only [Int.toNat_natCast] at g1
          exact ⟨g0, g1⟩⟩
        clear hKF
        refine (incipitref1_Fixed.calls KF (s.b.length : Int) 4 (fix s.b.length 4) _ HKF.out).mono ?_
        rintro e y1 ⟨v1, rfl, ho, hb⟩
        obtain ⟨E1, f1, e1⟩ := Kd.R_slice ho
        subst e1
        have HTa := Aside0.mk (HT.out.below hb)
        have HPa := Aside0.mk (Kd.R_reads' ho).2.2
        have hwn : IntKind.i64.wrap (((s.p.length / 4 : Nat) : Int) + 1) = ((s.p.length / 4 + 1 : Nat) : Int) := i64id (by omega)
        have hwn2 : IntKind.i64.wrap ((s.p.length : Int) / 4 + 1) = ((s.p.length / 4 + 1 : Nat) : Int) := i64id (by omega)
        clear ho hb HT HKF
        go_wp2_with (first | ((with_reducible refine gate_builtin (b := .append) (xs := #[.tmp 18, .tmp 22]) rfl ?_); at_builtin; refine Kd.R_append_rows (Kd.int .u8) (w0 := w) (W := y1) w.heap.size rfl (.tmp 18) (.tmp 22) 28 5 (.int .u8 0) 1 rfl Try.underlying28 info5 rfl (by decide) (by omega) (.slice A4 s.p.length c4) s.p (fix s.b.length 4) E1 (fix s.b.length 4).length f1 (fun _ => True) (fun _ => False) rfl rfl ?aO ?aR (fun _ _ h => h) (fun _ h => h.elim) ?aF ?aB ?aS ?aL ?_; (case aO => exact HTa.out.2.2.1); (case aR => exact HPa.out); (case aF => exact (fun _ _ => trivial)); (case aB => exact HTa.out.1); (case aS => exact below_size HTa.out.1); (case aL => rw [fix_length]; omega); intro v2 y2 ho2 hb2 hg2 hat2; obtain ⟨A5, c5, e2⟩ := Kd.R_slice ho2; obtain ⟨np, hnp⟩ : ∃ np, Aside0 (np = (s.p ++ fix s.b.length 4).length) := ⟨_, ⟨rfl⟩⟩; rw [← hnp.out] at e2; subst e2; have HT := Aside0.mk (HTa.out.app_e ho2 hb2 hg2 hat2); clear ho2 hb2 hg2 hat2))
        clear HTa HPa
        have hsN : 0 ≤ y.f0.size := by omega
        obtain ⟨K1, hK1⟩ := rPut_ev (n := 0) (by omega)
        obtain ⟨K2, hK2⟩ := rPut_ev (n := y.f0.size) (by omega)
        obtain ⟨K3, hK3⟩ := rPut_ev (n := y.f1.size) (by omega)
        have HK1 := Aside0.mk (hK1 K1 (Nat.le_refl _))
        have HK2 := Aside0.mk (hK2 K2 (Nat.le_refl _))
        have HK3 := Aside0.mk (hK3 K3 (Nat.le_refl _))
        have hp1 := put_length10 (n := 0) (by omega)
        have hp2 := put_length10 (n := y.f0.size) (by omega)
        have hp3 := put_length10 (n := y.f1.size) (by omega)
        have hwk : IntKind.i64.wrap (y.f0.size : Int) = (y.f0.size : Int) := i64id (by omega)
        have hwi : IntKind.i64.wrap ((i : Int) + 1) = ((i + 1 : Nat) : Int) := i64id (by omega)
        have HLM := Aside0.mk (show s.b.length ≤ 1800900000 ∧ (put (0)).length ≤ 10 ∧ (put (y.f0.size)).length ≤ 10 ∧ (put y.f1.size).length ≤ 10 ∧ y.f0.size + y.f1.size ≤ 60000 from ⟨by omega, hp1, hp2, hp3, by omega⟩)
        clear hK1 hK2 hK3 hp1 hp2 hp3
        refine (incipitref1_Put.calls K1 0 (put (0)) _ HK1.out).mono ?_
        rintro e x1 ⟨v1, rfl, ho, hb⟩
        obtain ⟨B1, d1, e1⟩ := Kd.R_slice ho
        subst e1
        have HT1 := Aside0.mk (HT.out.below hb)
        have HP1 := Aside0.mk (Kd.R_reads' ho).2.2
        clear ho hb HT HK1
        go_wp2_with (first | ((with_reducible refine gate_builtin (b := .append) (xs := #[.tmp 61, .tmp 64]) rfl ?_); at_builtin; refine Kd.R_append_rows (Kd.int .u8) (w0 := w) (W := x1) w.heap.size rfl (.tmp 61) (.tmp 64) 28 5 (.int .u8 0) 1 rfl Try.underlying28 info5 rfl (by decide) (by omega) (.slice A3 s.b.length c3) s.b (put (0)) B1 (put (0)).length d1 (fun _ => True) (fun _ => False) rfl rfl ?aO ?aR (fun _ _ h => h) (fun _ h => h.elim) ?aF ?aB ?aS ?aL ?_; (case aO => exact HT1.out.2.1); (case aR => exact HP1.out); (case aF => exact (fun _ _ => trivial)); (case aB => exact HT1.out.1); (case aS => exact below_size HT1.out.1); (case aL => have := HLM.out; omega); intro v2 x2 ho2 hb2 hg2 hat2; obtain ⟨B2, d2, e2⟩ := Kd.R_slice ho2; obtain ⟨n2, hn2⟩ : ∃ n2, Aside0 (n2 = (s.b ++ put (0)).length) := ⟨_, ⟨rfl⟩⟩; rw [← hn2.out] at e2; subst e2; have HT2 := Aside0.mk (HT1.out.app_b ho2 hb2 hg2 hat2); have g02 := (hcell.out _ HT2.out.1).1; clear ho2 hb2 hg2 hat2))
        refine (incipitref1_Put.calls K2 ((y.f0.size : Nat) : Int) (put (y.f0.size)) _ HK2.out).mono ?_
        rintro e x3 ⟨v1, rfl, ho, hb⟩
        obtain ⟨B3, d3, e1⟩ := Kd.R_slice ho
        subst e1
        have HT3 := Aside0.mk (HT2.out.below hb)
        have HP3 := Aside0.mk (Kd.R_reads' ho).2.2
        clear ho hb HT1 HT2 HP1 g02 HK2
        go_wp2_with (first | ((with_reducible refine gate_builtin (b := .append) (xs := #[.tmp 66, .tmp 76]) rfl ?_); at_builtin; refine Kd.R_append_rows (Kd.int .u8) (w0 := w) (W := x3) w.heap.size rfl (.tmp 66) (.tmp 76) 28 5 (.int .u8 0) 1 rfl Try.underlying28 info5 rfl (by decide) (by omega) (.slice B2 n2 d2) (s.b ++ put (0)) (put (y.f0.size)) B3 (put (y.f0.size)).length d3 (fun _ => True) (fun _ => False) rfl rfl ?aO ?aR (fun _ _ h => h) (fun _ h => h.elim) ?aF ?aB ?aS ?aL ?_; (case aO => exact HT3.out.2.1); (case aR => exact HP3.out); (case aF => exact (fun _ _ => trivial)); (case aB => exact HT3.out.1); (case aS => exact below_size HT3.out.1); (case aL => have := HLM.out; rw [List.length_append]; omega); intro v4 x4 ho2 hb2 hg2 hat2; obtain ⟨B4, d4, e2⟩ := Kd.R_slice ho2; obtain ⟨n4, hn4⟩ : ∃ n4, Aside0 (n4 = (s.b ++ put (0) ++ put (y.f0.size)).length) := ⟨_, ⟨rfl⟩⟩; rw [← hn4.out] at e2; subst e2; have HT4 := Aside0.mk (HT3.out.app_b ho2 hb2 hg2 hat2); have g14 := (hcell.out _ HT4.out.1).2; clear ho2 hb2 hg2 hat2))
        refine (incipitref1_Put.calls K3 (y.f1.size : Int) (put y.f1.size) _ HK3.out).mono ?_
        rintro e x5 ⟨v1, rfl, ho, hb⟩
        obtain ⟨B5, d5, e1⟩ := Kd.R_slice ho
        subst e1
        have HT5 := Aside0.mk (HT4.out.below hb)
        have HP5 := Aside0.mk (Kd.R_reads' ho).2.2
        clear ho hb HT3 HT4 HP3 g14 HK3 hn2
        go_wp2_with (first
          | ((with_reducible refine gate_builtin (b := .append) (xs := #[.tmp 78, .tmp 86]) rfl ?_); at_builtin; refine Kd.R_append_rows (Kd.int .u8) (w0 := w) (W := x5) w.heap.size rfl (.tmp 78) (.tmp 86) 28 5 (.int .u8 0) 1 rfl Try.underlying28 info5 rfl (by decide) (by omega) (.slice B4 n4 d4) (s.b ++ put (0) ++ put (y.f0.size)) (put y.f1.size) B5 (put y.f1.size).length d5 (fun _ => True) (fun _ => False) rfl rfl ?aO ?aR (fun _ _ h => h) (fun _ h => h.elim) ?aF ?aB ?aS ?aL ?_; (case aO => exact HT5.out.2.1); (case aR => exact HP5.out); (case aF => exact (fun _ _ => trivial)); (case aB => exact HT5.out.1); (case aS => exact below_size HT5.out.1); (case aL => have := HLM.out; rw [List.length_append, List.length_append]; omega); intro v6 x6 ho2 hb2 hg2 hat2; obtain ⟨B6, d6, e2⟩ := Kd.R_slice ho2; obtain ⟨n6, hn6⟩ : ∃ n6, Aside0 (n6 = (s.b ++ put (0) ++ put (y.f0.size) ++ put y.f1.size).length) := ⟨_, ⟨rfl⟩⟩; rw [← hn6.out] at e2; subst e2; have HT6 := Aside0.mk (HT5.out.app_b ho2 hb2 hg2 hat2); have g06 := (hcell.out _ HT6.out.1).1; clear ho2 hb2 hg2 hat2)
          | ((with_reducible refine gate_builtin (b := .append) (xs := #[.tmp 88, .tmp 95]) rfl ?_); at_builtin; refine R_append_str (w0 := w) (W := x6) w.heap.size rfl (.tmp 88) (.tmp 95) 28 9 5 rfl Try.underlying28 Try.underlying9 info5 (.slice B6 n6 d6) (s.b ++ put (0) ++ put (y.f0.size) ++ put y.f1.size) y.f0 (fun _ => True) rfl rfl ?aO ?aF ?aB ?aS ?aL ?_; (case aO => exact HT6.out.2.1); (case aF => exact (fun _ _ => trivial)); (case aB => exact HT6.out.1); (case aS => exact below_size HT6.out.1); (case aL => have := HLM.out; rw [List.length_append, List.length_append, List.length_append]; omega); intro v7 x7 ho2 hb2 hg2 hat2; obtain ⟨B7, d7, e2⟩ := Kd.R_slice ho2; obtain ⟨n7, hn7⟩ : ∃ n7, Aside0 (n7 = (s.b ++ put (0) ++ put (y.f0.size) ++ put y.f1.size ++ bytesOf y.f0).length) := ⟨_, ⟨rfl⟩⟩; rw [← hn7.out] at e2; subst e2; have HT7 := Aside0.mk (HT6.out.app_b ho2 hb2 hg2 hat2); have g17 := (hcell.out _ HT7.out.1).2; clear ho2 hb2 hg2 hat2)
          | ((with_reducible refine gate_builtin (b := .append) (xs := #[.tmp 97, .tmp 102]) rfl ?_); at_builtin; refine R_append_str (w0 := w) (W := x7) w.heap.size rfl (.tmp 97) (.tmp 102) 28 9 5 rfl Try.underlying28 Try.underlying9 info5 (.slice B7 n7 d7) (s.b ++ put (0) ++ put (y.f0.size) ++ put y.f1.size ++ bytesOf y.f0) y.f1 (fun _ => True) rfl rfl ?aO ?aF ?aB ?aS ?aL ?_; (case aO => exact HT7.out.2.1); (case aF => exact (fun _ _ => trivial)); (case aB => exact HT7.out.1); (case aS => exact below_size HT7.out.1); (case aL => have := HLM.out; rw [List.length_append, List.length_append, List.length_append, List.length_append, bytesOf_length]; omega); intro v8 x8 ho2 hb2 hg2 hat2; obtain ⟨B8, d8, e2⟩ := Kd.R_slice ho2; obtain ⟨n8, hn8⟩ : ∃ n8, Aside0 (n8 = (s.b ++ put (0) ++ put (y.f0.size) ++ put y.f1.size ++ bytesOf y.f0 ++ bytesOf y.f1).length) := ⟨_, ⟨rfl⟩⟩; rw [← hn8.out] at e2; subst e2; have HT8 := Aside0.mk (HT7.out.app_b ho2 hb2 hg2 hat2); clear ho2 hb2 hg2 hat2))
        have hsh : s.sh y.f0 = 0 := by unfold St.sh; rw [hsr, if_pos h4]
        have hbE : (addT s y.f0 y.f1).b = s.b ++ put (0) ++ put (y.f0.size) ++ put y.f1.size ++ bytesOf y.f0 ++ bytesOf y.f1 := by
          simp only [addT, hsh, List.drop_zero, Nat.sub_zero, List.append_assoc]
        have hpE : (addT s y.f0 y.f1).p = s.p ++ fix s.b.length 4 := by
          simp only [addT, hsr, if_pos h4]
        have HS2 : Aside0 (addT s y.f0 y.f1 = addTs St0 ((L.take (i + 1)).map cv)) := ⟨by rw [htk, List.map_append, addTs_app, ← HS.out]; rfl⟩
        rw [← hbE] at HT8 hn8
        rw [← hpE] at HT8 hnp
        have hr2 : (addT s y.f0 y.f1).rows = i + 1 := by show s.rows + 1 = i + 1; rw [hsr]
        have hbb := addT_bounds s y.f0 y.f1 (by omega) (by omega)
        have hb2 : (addT s y.f0 y.f1).b.length ≤ (30 + M) * (i + 1) := by rw [Nat.mul_succ]; omega
        have hp2 : (addT s y.f0 y.f1).p.length ≤ 4 * (i + 1) := by omega
        have hp4 : (addT s y.f0 y.f1).p.length % 4 = 0 := by rw [hpE]; rw [List.length_append, fix_length]; omega
        have hs5 : s.p.length / 4 + 1 = (addT s y.f0 y.f1).p.length / 4 := by rw [hpE]; rw [List.length_append, fix_length]; omega
        have hn8' := hn8.out
        subst hn8'
        have hnp' := hnp.out
        subst hnp'
        go_roundg kk
        case measure => omega
        case rel => exact ⟨i + 1, addT s y.f0 y.f1, B8, A5, d8, c5, rfl, rfl, congrArg (Value.int .i64) (by have := hs5; omega), rfl, by omega, HS2, hr2, hb2, hp2, hp4, HT8⟩
      · have h4b : ((i : Int).tmod 4 == 0) = false := by rw [Int.tmod_eq_emod_of_nonneg (by omega), beq_eq_false_iff_ne]; omega
        have h4c : ((i : Int) % 4 == 0) = false := by rw [beq_eq_false_iff_ne]; omega
        obtain ⟨j0, hj0⟩ : ∃ j0, Aside0 (i = j0 + 1) := ⟨i - 1, ⟨by omega⟩⟩
        obtain ⟨ad, rfl, _⟩ := at_T70 HR.out (i : Int) (by omega) (by omega)
        have hcell : Aside0 (∀ W : World, Below w.heap.size w W → W.cell? (ad.add (i * 2)) = some (.string y.f0) ∧ W.cell? ⟨(ad.add (i * 2)).block, (ad.add (i * 2)).off + 1, none⟩ = some (.string y.f1)) := ⟨fun W hB => by
          obtain ⟨ad2, e, g0, g1⟩ := at_T70 (Kd.C_below HR.out hB) (i : Int) (by omega) (by omega)
          injection e with e
          subst e
          rw [hy.out, Int.toNat_natCast] at g0
          rw [hy.out] at g1
          simp only [Int.toNat_natCast] at g1
          exact ⟨g0, g1⟩⟩
        obtain ⟨z, hz⟩ : ∃ z, Aside0 (rd_T70 L (j0 : Int) = z) := ⟨_, ⟨rfl⟩⟩
        have hlast : s.last = z.f0 := by
          have h_ := HS.out
          have htk0 : L.take (j0 + 1) = L.take j0 ++ [rd_T70 L (j0 : Int)] := by
            unfold rd_T70
            rw [Int.toNat_natCast, List.take_succ_eq_append_getElem (by have := hj0.out; omega), List.getD_eq_getElem?_getD, List.getElem?_eq_getElem (by have := hj0.out; omega)]; rfl
          rw [hj0.out, htk0, List.map_append, addTs_app, hz.out] at h_
          rw [h_]; rfl
        have hgz : wr.cell? (ad.add (j0 * 2)) = some (.string z.f0) := by
          obtain ⟨ad2, e, g0, _⟩ := at_T70 (Kd.C_below HR.out HT.out.1) (j0 : Int) (by omega) (by have := hj0.out; omega)
          injection e with e
          subst e
          rw [hz.out, Int.toNat_natCast] at g0
          exact g0
        have hwm : IntKind.i64.wrap ((i : Int) - 1) = (j0 : Int) := (i64id (by omega)).trans (by have := hj0.out; omega)
        have hj00 : ((0 : Int) ≤ (j0 : Int)) = True := eq_true (by omega)
        have hj01 : ((j0 : Int) < (L.length : Int)) = True := eq_true (by have := hj0.out; omega)
        have hj02 : (j0 < L.length) = True := eq_true (by have := hj0.out; omega)
        clear hz
        go_wp2_with (fail)
        go_loopg [7] z.f0.size (fun kq s7 wq => ∃ j : Nat, s7 = .int .i64 j ∧ j + kq = z.f0.size ∧ j ≤ y.f0.size ∧ Aside0 (j + cpl ((bytesOf z.f0).drop j) ((bytesOf y.f0).drop j) = cpl (bytesOf z.f0) (bytesOf y.f0)) ∧ Aside0 (Below wr.heap.size wr wq))
        case atStart => exact ⟨0, rfl, by omega, by omega, ⟨by simp⟩, ⟨Below.refl _ _⟩⟩
        case round =>
          obtain ⟨j, rfl, hjk, hjy, HCP, HBW⟩ := hrel
          have HT1 := Aside0.mk (HT.out.below HBW.out)
          have gy := (hcell.out _ HT1.out.1).1
          by_cases hstop : j < z.f0.size ∧ j < y.f0.size ∧ bt z.f0 j = bt y.f0 j
          · obtain ⟨q1, q2, q3⟩ := hstop
            cases gk with
            | zero => omega
            | succ k7 =>
              have HCP2 : Aside0 (j + 1 + cpl ((bytesOf z.f0).drop (j + 1)) ((bytesOf y.f0).drop (j + 1)) = cpl (bytesOf z.f0) (bytesOf y.f0)) := ⟨by
                have h_ := HCP.out
                rw [dropD (bytesOf z.f0) j (by rw [bytesOf_length]; omega), dropD (bytesOf y.f0) j (by rw [bytesOf_length]; omega), cpl, if_pos (by rw [← bt_getD, ← bt_getD]; exact q3)] at h_
                omega⟩
              have p0 : ((0 : Int) ≤ (j : Int)) = True := eq_true (by omega)
              have p6 : ((j : Int) < (z.f0.size : Int)) = True := eq_true (by omega)
              have p7 : ((j : Int) < (y.f0.size : Int)) = True := eq_true (by omega)
              have p6n : (j < z.f0.size) = True := eq_true q1
              have p7n : (j < y.f0.size) = True := eq_true q2
              have hx6 : ∀ h : j < z.f0.size, ((z.f0[j]'h).toNat : Int) = bt z.f0 j := fun h => bt_at z.f0 j h
              have hx7 : ∀ h : j < y.f0.size, ((y.f0[j]'h).toNat : Int) = bt y.f0 j := fun h => bt_at y.f0 j h
              have c8b : (bt z.f0 j == bt y.f0 j) = true := beq_iff_eq.mpr q3
              have hwj : IntKind.i64.wrap ((j : Int) + 1) = ((j + 1 : Nat) : Int) := i64id (by omega)
              go_wp2_with (fail)
              repeat (go_quiet (fail); try go_wp2_with (fail))
              go_roundg k7
              case measure => omega
              case rel => exact ⟨j + 1, rfl, by omega, by omega, HCP2, ⟨by repeat (first | exact HBW.out | apply pw_below_drewN | apply below_drew1)⟩⟩
          · have hcp0 : cpl ((bytesOf z.f0).drop j) ((bytesOf y.f0).drop j) = 0 := by
              by_cases q1 : j < z.f0.size
              · by_cases q2 : j < y.f0.size
                · rw [dropD (bytesOf z.f0) j (by rw [bytesOf_length]; omega), dropD (bytesOf y.f0) j (by rw [bytesOf_length]; omega), cpl, if_neg (by rw [← bt_getD, ← bt_getD]; exact fun h => hstop ⟨q1, q2, h⟩)]
                · rw [show (bytesOf y.f0).drop j = [] from List.drop_eq_nil_of_le (by rw [bytesOf_length]; omega)]
                  cases (bytesOf z.f0).drop j <;> rfl
              · rw [show (bytesOf z.f0).drop j = [] from List.drop_eq_nil_of_le (by rw [bytesOf_length]; omega)]
                rfl
            have hsheq : s.sh y.f0 = j := by
              unfold St.sh
              rw [hsr, if_neg h4, hlast, ← HCP.out, hcp0, Nat.add_zero]
            have p0 : ((0 : Int) ≤ (j : Int)) = True := eq_true (by omega)
            have hjyI : ((j : Int) ≤ (y.f0.size : Int)) = True := eq_true (by omega)
            have hjyN : (j ≤ y.f0.size) = True := eq_true hjy
            clear hcp0 HCP hgz hlast
            by_cases q1 : j < z.f0.size
            · have p6 : ((j : Int) < (z.f0.size : Int)) = True := eq_true (by omega)
              have p6n : (j < z.f0.size) = True := eq_true q1
              by_cases q2 : j < y.f0.size
              · have p7 : ((j : Int) < (y.f0.size : Int)) = True := eq_true (by omega)
                have p7n : (j < y.f0.size) = True := eq_true q2
                have hx6 : ∀ h : j < z.f0.size, ((z.f0[j]'h).toNat : Int) = bt z.f0 j := fun h => bt_at z.f0 j h
                have hx7 : ∀ h : j < y.f0.size, ((y.f0[j]'h).toNat : Int) = bt y.f0 j := fun h => bt_at y.f0 j h
                have c8b : (bt z.f0 j == bt y.f0 j) = false := beq_eq_false_iff_ne.mpr (fun h => hstop ⟨q1, q2, h⟩)
                go_wp2_with (fail)
                repeat (go_quiet (fail); try go_wp2_with (fail))
                (try clear hx6 hx7 c8b)
                (try clear p7 p7n)
                clear p6 p6n hstop HBW gy HT
                have HT := Aside0.mk (HT1.out.below (pw_below_drewN (Below.refl _ _) nq))
                clear HT1

                have hsN : j ≤ y.f0.size := by omega
                obtain ⟨K1, hK1⟩ := rPut_ev (n := j) (by omega)
                obtain ⟨K2, hK2⟩ := rPut_ev (n := y.f0.size - j) (by omega)
                obtain ⟨K3, hK3⟩ := rPut_ev (n := y.f1.size) (by omega)
                have HK1 := Aside0.mk (hK1 K1 (Nat.le_refl _))
                have HK2 := Aside0.mk (hK2 K2 (Nat.le_refl _))
                have HK3 := Aside0.mk (hK3 K3 (Nat.le_refl _))
                have hp1 := put_length10 (n := j) (by omega)
                have hp2 := put_length10 (n := y.f0.size - j) (by omega)
                have hp3 := put_length10 (n := y.f1.size) (by omega)
                have hwk : IntKind.i64.wrap ((y.f0.size : Int) - (j : Int)) = ((y.f0.size - j : Nat) : Int) := (i64id (by omega)).trans (by omega)
                have hwi : IntKind.i64.wrap ((i : Int) + 1) = ((i + 1 : Nat) : Int) := i64id (by omega)
                have HLM := Aside0.mk (show s.b.length ≤ 1800900000 ∧ (put (j)).length ≤ 10 ∧ (put (y.f0.size - j)).length ≤ 10 ∧ (put y.f1.size).length ≤ 10 ∧ y.f0.size + y.f1.size ≤ 60000 from ⟨by omega, hp1, hp2, hp3, by omega⟩)
                clear hK1 hK2 hK3 hp1 hp2 hp3
                refine (incipitref1_Put.calls K1 (j : Int) (put (j)) _ HK1.out).mono ?_
                rintro e x1 ⟨v1, rfl, ho, hb⟩
                obtain ⟨B1, d1, e1⟩ := Kd.R_slice ho
                subst e1
                have HT1 := Aside0.mk (HT.out.below hb)
                have HP1 := Aside0.mk (Kd.R_reads' ho).2.2
                clear ho hb HT HK1
                go_wp2_with (first | ((with_reducible refine gate_builtin (b := .append) (xs := #[.tmp 61, .tmp 64]) rfl ?_); at_builtin; refine Kd.R_append_rows (Kd.int .u8) (w0 := w) (W := x1) w.heap.size rfl (.tmp 61) (.tmp 64) 28 5 (.int .u8 0) 1 rfl Try.underlying28 info5 rfl (by decide) (by omega) (.slice A3 s.b.length c3) s.b (put (j)) B1 (put (j)).length d1 (fun _ => True) (fun _ => False) rfl rfl ?aO ?aR (fun _ _ h => h) (fun _ h => h.elim) ?aF ?aB ?aS ?aL ?_; (case aO => exact HT1.out.2.1); (case aR => exact HP1.out); (case aF => exact (fun _ _ => trivial)); (case aB => exact HT1.out.1); (case aS => exact below_size HT1.out.1); (case aL => have := HLM.out; omega); intro v2 x2 ho2 hb2 hg2 hat2; obtain ⟨B2, d2, e2⟩ := Kd.R_slice ho2; obtain ⟨n2, hn2⟩ : ∃ n2, Aside0 (n2 = (s.b ++ put (j)).length) := ⟨_, ⟨rfl⟩⟩; rw [← hn2.out] at e2; subst e2; have HT2 := Aside0.mk (HT1.out.app_b ho2 hb2 hg2 hat2); have g02 := (hcell.out _ HT2.out.1).1; clear ho2 hb2 hg2 hat2))
                refine (incipitref1_Put.calls K2 ((y.f0.size - j : Nat) : Int) (put (y.f0.size - j)) _ HK2.out).mono ?_
                rintro e x3 ⟨v1, rfl, ho, hb⟩
                obtain ⟨B3, d3, e1⟩ := Kd.R_slice ho
                subst e1
                have HT3 := Aside0.mk (HT2.out.below hb)
                have HP3 := Aside0.mk (Kd.R_reads' ho).2.2
                clear ho hb HT1 HT2 HP1 g02 HK2
                go_wp2_with (first | ((with_reducible refine gate_builtin (b := .append) (xs := #[.tmp 66, .tmp 76]) rfl ?_); at_builtin; refine Kd.R_append_rows (Kd.int .u8) (w0 := w) (W := x3) w.heap.size rfl (.tmp 66) (.tmp 76) 28 5 (.int .u8 0) 1 rfl Try.underlying28 info5 rfl (by decide) (by omega) (.slice B2 n2 d2) (s.b ++ put (j)) (put (y.f0.size - j)) B3 (put (y.f0.size - j)).length d3 (fun _ => True) (fun _ => False) rfl rfl ?aO ?aR (fun _ _ h => h) (fun _ h => h.elim) ?aF ?aB ?aS ?aL ?_; (case aO => exact HT3.out.2.1); (case aR => exact HP3.out); (case aF => exact (fun _ _ => trivial)); (case aB => exact HT3.out.1); (case aS => exact below_size HT3.out.1); (case aL => have := HLM.out; rw [List.length_append]; omega); intro v4 x4 ho2 hb2 hg2 hat2; obtain ⟨B4, d4, e2⟩ := Kd.R_slice ho2; obtain ⟨n4, hn4⟩ : ∃ n4, Aside0 (n4 = (s.b ++ put (j) ++ put (y.f0.size - j)).length) := ⟨_, ⟨rfl⟩⟩; rw [← hn4.out] at e2; subst e2; have HT4 := Aside0.mk (HT3.out.app_b ho2 hb2 hg2 hat2); have g14 := (hcell.out _ HT4.out.1).2; clear ho2 hb2 hg2 hat2))
                refine (incipitref1_Put.calls K3 (y.f1.size : Int) (put y.f1.size) _ HK3.out).mono ?_
                rintro e x5 ⟨v1, rfl, ho, hb⟩
                obtain ⟨B5, d5, e1⟩ := Kd.R_slice ho
                subst e1
                have HT5 := Aside0.mk (HT4.out.below hb)
                have HP5 := Aside0.mk (Kd.R_reads' ho).2.2
                clear ho hb HT3 HT4 HP3 g14 HK3 hn2
                go_wp2_with (first
                  | ((with_reducible refine gate_builtin (b := .append) (xs := #[.tmp 78, .tmp 86]) rfl ?_); at_builtin; refine Kd.R_append_rows (Kd.int .u8) (w0 := w) (W := x5) w.heap.size rfl (.tmp 78) (.tmp 86) 28 5 (.int .u8 0) 1 rfl Try.underlying28 info5 rfl (by decide) (by omega) (.slice B4 n4 d4) (s.b ++ put (j) ++ put (y.f0.size - j)) (put y.f1.size) B5 (put y.f1.size).length d5 (fun _ => True) (fun _ => False) rfl rfl ?aO ?aR (fun _ _ h => h) (fun _ h => h.elim) ?aF ?aB ?aS ?aL ?_; (case aO => exact HT5.out.2.1); (case aR => exact HP5.out); (case aF => exact (fun _ _ => trivial)); (case aB => exact HT5.out.1); (case aS => exact below_size HT5.out.1); (case aL => have := HLM.out; rw [List.length_append, List.length_append]; omega); intro v6 x6 ho2 hb2 hg2 hat2; obtain ⟨B6, d6, e2⟩ := Kd.R_slice ho2; obtain ⟨n6, hn6⟩ : ∃ n6, Aside0 (n6 = (s.b ++ put (j) ++ put (y.f0.size - j) ++ put y.f1.size).length) := ⟨_, ⟨rfl⟩⟩; rw [← hn6.out] at e2; subst e2; have HT6 := Aside0.mk (HT5.out.app_b ho2 hb2 hg2 hat2); have g06 := (hcell.out _ HT6.out.1).1; clear ho2 hb2 hg2 hat2)
                  | ((with_reducible refine gate_builtin (b := .append) (xs := #[.tmp 88, .tmp 95]) rfl ?_); at_builtin; refine R_append_str (w0 := w) (W := x6) w.heap.size rfl (.tmp 88) (.tmp 95) 28 9 5 rfl Try.underlying28 Try.underlying9 info5 (.slice B6 n6 d6) (s.b ++ put (j) ++ put (y.f0.size - j) ++ put y.f1.size) (y.f0.extract j y.f0.size) (fun _ => True) rfl rfl ?aO ?aF ?aB ?aS ?aL ?_; (case aO => exact HT6.out.2.1); (case aF => exact (fun _ _ => trivial)); (case aB => exact HT6.out.1); (case aS => exact below_size HT6.out.1); (case aL => have := HLM.out; rw [List.length_append, List.length_append, List.length_append, ByteArray.size_extract]; omega); intro v7 x7 ho2 hb2 hg2 hat2; obtain ⟨B7, d7, e2⟩ := Kd.R_slice ho2; obtain ⟨n7, hn7⟩ : ∃ n7, Aside0 (n7 = (s.b ++ put (j) ++ put (y.f0.size - j) ++ put y.f1.size ++ bytesOf (y.f0.extract j y.f0.size)).length) := ⟨_, ⟨rfl⟩⟩; rw [← hn7.out] at e2; subst e2; have HT7 := Aside0.mk (HT6.out.app_b ho2 hb2 hg2 hat2); have g17 := (hcell.out _ HT7.out.1).2; clear ho2 hb2 hg2 hat2)
                  | ((with_reducible refine gate_builtin (b := .append) (xs := #[.tmp 97, .tmp 102]) rfl ?_); at_builtin; refine R_append_str (w0 := w) (W := x7) w.heap.size rfl (.tmp 97) (.tmp 102) 28 9 5 rfl Try.underlying28 Try.underlying9 info5 (.slice B7 n7 d7) (s.b ++ put (j) ++ put (y.f0.size - j) ++ put y.f1.size ++ bytesOf (y.f0.extract j y.f0.size)) y.f1 (fun _ => True) rfl rfl ?aO ?aF ?aB ?aS ?aL ?_; (case aO => exact HT7.out.2.1); (case aF => exact (fun _ _ => trivial)); (case aB => exact HT7.out.1); (case aS => exact below_size HT7.out.1); (case aL => have := HLM.out; rw [List.length_append, List.length_append, List.length_append, List.length_append, bytesOf_length, ByteArray.size_extract]; omega); intro v8 x8 ho2 hb2 hg2 hat2; obtain ⟨B8, d8, e2⟩ := Kd.R_slice ho2; obtain ⟨n8, hn8⟩ : ∃ n8, Aside0 (n8 = (s.b ++ put (j) ++ put (y.f0.size - j) ++ put y.f1.size ++ bytesOf (y.f0.extract j y.f0.size) ++ bytesOf y.f1).length) := ⟨_, ⟨rfl⟩⟩; rw [← hn8.out] at e2; subst e2; have HT8 := Aside0.mk (HT7.out.app_b ho2 hb2 hg2 hat2); clear ho2 hb2 hg2 hat2))
                have hsh : s.sh y.f0 = j := hsheq
                have hbE : (addT s y.f0 y.f1).b = s.b ++ put (j) ++ put (y.f0.size - j) ++ put y.f1.size ++ bytesOf (y.f0.extract j y.f0.size) ++ bytesOf y.f1 := by
                  simp only [addT, hsh, bytesOf_extract_from, List.append_assoc]
                have hpE : (addT s y.f0 y.f1).p = s.p := by
                  simp only [addT, hsr, if_neg h4]
                have HS2 : Aside0 (addT s y.f0 y.f1 = addTs St0 ((L.take (i + 1)).map cv)) := ⟨by rw [htk, List.map_append, addTs_app, ← HS.out]; rfl⟩
                rw [← hbE] at HT8 hn8
                rw [← hpE] at HT8
                have hr2 : (addT s y.f0 y.f1).rows = i + 1 := by show s.rows + 1 = i + 1; rw [hsr]
                have hbb := addT_bounds s y.f0 y.f1 (by omega) (by omega)
                have hb2 : (addT s y.f0 y.f1).b.length ≤ (30 + M) * (i + 1) := by rw [Nat.mul_succ]; omega
                have hp2 : (addT s y.f0 y.f1).p.length ≤ 4 * (i + 1) := by omega
                have hp4 : (addT s y.f0 y.f1).p.length % 4 = 0 := by rw [hpE]; exact hs4
                have hs5 : s.p.length / 4 = (addT s y.f0 y.f1).p.length / 4 := by rw [hpE]; skip
                have hn8' := hn8.out
                subst hn8'

                go_roundg kk
                case measure => omega
                case rel => exact ⟨i + 1, addT s y.f0 y.f1, B8, A4, d8, c4, rfl, by rw [hpE], congrArg (Value.int .i64) (by have := hs5; omega), rfl, by omega, HS2, hr2, hb2, hp2, hp4, HT8⟩
              · have p7 : ((j : Int) < (y.f0.size : Int)) = False := eq_false (by omega)
                have p7n : (j < y.f0.size) = False := eq_false q2
                go_wp2_with (fail)
                repeat (go_quiet (fail); try go_wp2_with (fail))
                (try clear hx6 hx7 c8b)
                (try clear p7 p7n)
                clear p6 p6n hstop HBW gy HT
                have HT := Aside0.mk (HT1.out.below (pw_below_drewN (Below.refl _ _) nq))
                clear HT1

                have hsN : j ≤ y.f0.size := by omega
                obtain ⟨K1, hK1⟩ := rPut_ev (n := j) (by omega)
                obtain ⟨K2, hK2⟩ := rPut_ev (n := y.f0.size - j) (by omega)
                obtain ⟨K3, hK3⟩ := rPut_ev (n := y.f1.size) (by omega)
                have HK1 := Aside0.mk (hK1 K1 (Nat.le_refl _))
                have HK2 := Aside0.mk (hK2 K2 (Nat.le_refl _))
                have HK3 := Aside0.mk (hK3 K3 (Nat.le_refl _))
                have hp1 := put_length10 (n := j) (by omega)
                have hp2 := put_length10 (n := y.f0.size - j) (by omega)
                have hp3 := put_length10 (n := y.f1.size) (by omega)
                have hwk : IntKind.i64.wrap ((y.f0.size : Int) - (j : Int)) = ((y.f0.size - j : Nat) : Int) := (i64id (by omega)).trans (by omega)
                have hwi : IntKind.i64.wrap ((i : Int) + 1) = ((i + 1 : Nat) : Int) := i64id (by omega)
                have HLM := Aside0.mk (show s.b.length ≤ 1800900000 ∧ (put (j)).length ≤ 10 ∧ (put (y.f0.size - j)).length ≤ 10 ∧ (put y.f1.size).length ≤ 10 ∧ y.f0.size + y.f1.size ≤ 60000 from ⟨by omega, hp1, hp2, hp3, by omega⟩)
                clear hK1 hK2 hK3 hp1 hp2 hp3
                refine (incipitref1_Put.calls K1 (j : Int) (put (j)) _ HK1.out).mono ?_
                rintro e x1 ⟨v1, rfl, ho, hb⟩
                obtain ⟨B1, d1, e1⟩ := Kd.R_slice ho
                subst e1
                have HT1 := Aside0.mk (HT.out.below hb)
                have HP1 := Aside0.mk (Kd.R_reads' ho).2.2
                clear ho hb HT HK1
                go_wp2_with (first | ((with_reducible refine gate_builtin (b := .append) (xs := #[.tmp 61, .tmp 64]) rfl ?_); at_builtin; refine Kd.R_append_rows (Kd.int .u8) (w0 := w) (W := x1) w.heap.size rfl (.tmp 61) (.tmp 64) 28 5 (.int .u8 0) 1 rfl Try.underlying28 info5 rfl (by decide) (by omega) (.slice A3 s.b.length c3) s.b (put (j)) B1 (put (j)).length d1 (fun _ => True) (fun _ => False) rfl rfl ?aO ?aR (fun _ _ h => h) (fun _ h => h.elim) ?aF ?aB ?aS ?aL ?_; (case aO => exact HT1.out.2.1); (case aR => exact HP1.out); (case aF => exact (fun _ _ => trivial)); (case aB => exact HT1.out.1); (case aS => exact below_size HT1.out.1); (case aL => have := HLM.out; omega); intro v2 x2 ho2 hb2 hg2 hat2; obtain ⟨B2, d2, e2⟩ := Kd.R_slice ho2; obtain ⟨n2, hn2⟩ : ∃ n2, Aside0 (n2 = (s.b ++ put (j)).length) := ⟨_, ⟨rfl⟩⟩; rw [← hn2.out] at e2; subst e2; have HT2 := Aside0.mk (HT1.out.app_b ho2 hb2 hg2 hat2); have g02 := (hcell.out _ HT2.out.1).1; clear ho2 hb2 hg2 hat2))
                refine (incipitref1_Put.calls K2 ((y.f0.size - j : Nat) : Int) (put (y.f0.size - j)) _ HK2.out).mono ?_
                rintro e x3 ⟨v1, rfl, ho, hb⟩
                obtain ⟨B3, d3, e1⟩ := Kd.R_slice ho
                subst e1
                have HT3 := Aside0.mk (HT2.out.below hb)
                have HP3 := Aside0.mk (Kd.R_reads' ho).2.2
                clear ho hb HT1 HT2 HP1 g02 HK2
                go_wp2_with (first | ((with_reducible refine gate_builtin (b := .append) (xs := #[.tmp 66, .tmp 76]) rfl ?_); at_builtin; refine Kd.R_append_rows (Kd.int .u8) (w0 := w) (W := x3) w.heap.size rfl (.tmp 66) (.tmp 76) 28 5 (.int .u8 0) 1 rfl Try.underlying28 info5 rfl (by decide) (by omega) (.slice B2 n2 d2) (s.b ++ put (j)) (put (y.f0.size - j)) B3 (put (y.f0.size - j)).length d3 (fun _ => True) (fun _ => False) rfl rfl ?aO ?aR (fun _ _ h => h) (fun _ h => h.elim) ?aF ?aB ?aS ?aL ?_; (case aO => exact HT3.out.2.1); (case aR => exact HP3.out); (case aF => exact (fun _ _ => trivial)); (case aB => exact HT3.out.1); (case aS => exact below_size HT3.out.1); (case aL => have := HLM.out; rw [List.length_append]; omega); intro v4 x4 ho2 hb2 hg2 hat2; obtain ⟨B4, d4, e2⟩ := Kd.R_slice ho2; obtain ⟨n4, hn4⟩ : ∃ n4, Aside0 (n4 = (s.b ++ put (j) ++ put (y.f0.size - j)).length) := ⟨_, ⟨rfl⟩⟩; rw [← hn4.out] at e2; subst e2; have HT4 := Aside0.mk (HT3.out.app_b ho2 hb2 hg2 hat2); have g14 := (hcell.out _ HT4.out.1).2; clear ho2 hb2 hg2 hat2))
                refine (incipitref1_Put.calls K3 (y.f1.size : Int) (put y.f1.size) _ HK3.out).mono ?_
                rintro e x5 ⟨v1, rfl, ho, hb⟩
                obtain ⟨B5, d5, e1⟩ := Kd.R_slice ho
                subst e1
                have HT5 := Aside0.mk (HT4.out.below hb)
                have HP5 := Aside0.mk (Kd.R_reads' ho).2.2
                clear ho hb HT3 HT4 HP3 g14 HK3 hn2
                go_wp2_with (first
                  | ((with_reducible refine gate_builtin (b := .append) (xs := #[.tmp 78, .tmp 86]) rfl ?_); at_builtin; refine Kd.R_append_rows (Kd.int .u8) (w0 := w) (W := x5) w.heap.size rfl (.tmp 78) (.tmp 86) 28 5 (.int .u8 0) 1 rfl Try.underlying28 info5 rfl (by decide) (by omega) (.slice B4 n4 d4) (s.b ++ put (j) ++ put (y.f0.size - j)) (put y.f1.size) B5 (put y.f1.size).length d5 (fun _ => True) (fun _ => False) rfl rfl ?aO ?aR (fun _ _ h => h) (fun _ h => h.elim) ?aF ?aB ?aS ?aL ?_; (case aO => exact HT5.out.2.1); (case aR => exact HP5.out); (case aF => exact (fun _ _ => trivial)); (case aB => exact HT5.out.1); (case aS => exact below_size HT5.out.1); (case aL => have := HLM.out; rw [List.length_append, List.length_append]; omega); intro v6 x6 ho2 hb2 hg2 hat2; obtain ⟨B6, d6, e2⟩ := Kd.R_slice ho2; obtain ⟨n6, hn6⟩ : ∃ n6, Aside0 (n6 = (s.b ++ put (j) ++ put (y.f0.size - j) ++ put y.f1.size).length) := ⟨_, ⟨rfl⟩⟩; rw [← hn6.out] at e2; subst e2; have HT6 := Aside0.mk (HT5.out.app_b ho2 hb2 hg2 hat2); have g06 := (hcell.out _ HT6.out.1).1; clear ho2 hb2 hg2 hat2)
                  | ((with_reducible refine gate_builtin (b := .append) (xs := #[.tmp 88, .tmp 95]) rfl ?_); at_builtin; refine R_append_str (w0 := w) (W := x6) w.heap.size rfl (.tmp 88) (.tmp 95) 28 9 5 rfl Try.underlying28 Try.underlying9 info5 (.slice B6 n6 d6) (s.b ++ put (j) ++ put (y.f0.size - j) ++ put y.f1.size) (y.f0.extract j y.f0.size) (fun _ => True) rfl rfl ?aO ?aF ?aB ?aS ?aL ?_; (case aO => exact HT6.out.2.1); (case aF => exact (fun _ _ => trivial)); (case aB => exact HT6.out.1); (case aS => exact below_size HT6.out.1); (case aL => have := HLM.out; rw [List.length_append, List.length_append, List.length_append, ByteArray.size_extract]; omega); intro v7 x7 ho2 hb2 hg2 hat2; obtain ⟨B7, d7, e2⟩ := Kd.R_slice ho2; obtain ⟨n7, hn7⟩ : ∃ n7, Aside0 (n7 = (s.b ++ put (j) ++ put (y.f0.size - j) ++ put y.f1.size ++ bytesOf (y.f0.extract j y.f0.size)).length) := ⟨_, ⟨rfl⟩⟩; rw [← hn7.out] at e2; subst e2; have HT7 := Aside0.mk (HT6.out.app_b ho2 hb2 hg2 hat2); have g17 := (hcell.out _ HT7.out.1).2; clear ho2 hb2 hg2 hat2)
                  | ((with_reducible refine gate_builtin (b := .append) (xs := #[.tmp 97, .tmp 102]) rfl ?_); at_builtin; refine R_append_str (w0 := w) (W := x7) w.heap.size rfl (.tmp 97) (.tmp 102) 28 9 5 rfl Try.underlying28 Try.underlying9 info5 (.slice B7 n7 d7) (s.b ++ put (j) ++ put (y.f0.size - j) ++ put y.f1.size ++ bytesOf (y.f0.extract j y.f0.size)) y.f1 (fun _ => True) rfl rfl ?aO ?aF ?aB ?aS ?aL ?_; (case aO => exact HT7.out.2.1); (case aF => exact (fun _ _ => trivial)); (case aB => exact HT7.out.1); (case aS => exact below_size HT7.out.1); (case aL => have := HLM.out; rw [List.length_append, List.length_append, List.length_append, List.length_append, bytesOf_length, ByteArray.size_extract]; omega); intro v8 x8 ho2 hb2 hg2 hat2; obtain ⟨B8, d8, e2⟩ := Kd.R_slice ho2; obtain ⟨n8, hn8⟩ : ∃ n8, Aside0 (n8 = (s.b ++ put (j) ++ put (y.f0.size - j) ++ put y.f1.size ++ bytesOf (y.f0.extract j y.f0.size) ++ bytesOf y.f1).length) := ⟨_, ⟨rfl⟩⟩; rw [← hn8.out] at e2; subst e2; have HT8 := Aside0.mk (HT7.out.app_b ho2 hb2 hg2 hat2); clear ho2 hb2 hg2 hat2))
                have hsh : s.sh y.f0 = j := hsheq
                have hbE : (addT s y.f0 y.f1).b = s.b ++ put (j) ++ put (y.f0.size - j) ++ put y.f1.size ++ bytesOf (y.f0.extract j y.f0.size) ++ bytesOf y.f1 := by
                  simp only [addT, hsh, bytesOf_extract_from, List.append_assoc]
                have hpE : (addT s y.f0 y.f1).p = s.p := by
                  simp only [addT, hsr, if_neg h4]
                have HS2 : Aside0 (addT s y.f0 y.f1 = addTs St0 ((L.take (i + 1)).map cv)) := ⟨by rw [htk, List.map_append, addTs_app, ← HS.out]; rfl⟩
                rw [← hbE] at HT8 hn8
                rw [← hpE] at HT8
                have hr2 : (addT s y.f0 y.f1).rows = i + 1 := by show s.rows + 1 = i + 1; rw [hsr]
                have hbb := addT_bounds s y.f0 y.f1 (by omega) (by omega)
                have hb2 : (addT s y.f0 y.f1).b.length ≤ (30 + M) * (i + 1) := by rw [Nat.mul_succ]; omega
                have hp2 : (addT s y.f0 y.f1).p.length ≤ 4 * (i + 1) := by omega
                have hp4 : (addT s y.f0 y.f1).p.length % 4 = 0 := by rw [hpE]; exact hs4
                have hs5 : s.p.length / 4 = (addT s y.f0 y.f1).p.length / 4 := by rw [hpE]; skip
                have hn8' := hn8.out
                subst hn8'

                go_roundg kk
                case measure => omega
                case rel => exact ⟨i + 1, addT s y.f0 y.f1, B8, A4, d8, c4, rfl, by rw [hpE], congrArg (Value.int .i64) (by have := hs5; omega), rfl, by omega, HS2, hr2, hb2, hp2, hp4, HT8⟩
            · have p6 : ((j : Int) < (z.f0.size : Int)) = False := eq_false (by omega)
              have p6n : (j < z.f0.size) = False := eq_false q1
              go_wp2_with (fail)
              repeat (go_quiet (fail); try go_wp2_with (fail))
              (try clear hx6 hx7 c8b)
              (try clear p7 p7n)
              clear p6 p6n hstop HBW gy HT
              have HT := Aside0.mk (HT1.out.below (pw_below_drewN (Below.refl _ _) nq))
              clear HT1

              have hsN : j ≤ y.f0.size := by omega
              obtain ⟨K1, hK1⟩ := rPut_ev (n := j) (by omega)
              obtain ⟨K2, hK2⟩ := rPut_ev (n := y.f0.size - j) (by omega)
              obtain ⟨K3, hK3⟩ := rPut_ev (n := y.f1.size) (by omega)
              have HK1 := Aside0.mk (hK1 K1 (Nat.le_refl _))
              have HK2 := Aside0.mk (hK2 K2 (Nat.le_refl _))
              have HK3 := Aside0.mk (hK3 K3 (Nat.le_refl _))
              have hp1 := put_length10 (n := j) (by omega)
              have hp2 := put_length10 (n := y.f0.size - j) (by omega)
              have hp3 := put_length10 (n := y.f1.size) (by omega)
              have hwk : IntKind.i64.wrap ((y.f0.size : Int) - (j : Int)) = ((y.f0.size - j : Nat) : Int) := (i64id (by omega)).trans (by omega)
              have hwi : IntKind.i64.wrap ((i : Int) + 1) = ((i + 1 : Nat) : Int) := i64id (by omega)
              have HLM := Aside0.mk (show s.b.length ≤ 1800900000 ∧ (put (j)).length ≤ 10 ∧ (put (y.f0.size - j)).length ≤ 10 ∧ (put y.f1.size).length ≤ 10 ∧ y.f0.size + y.f1.size ≤ 60000 from ⟨by omega, hp1, hp2, hp3, by omega⟩)
              clear hK1 hK2 hK3 hp1 hp2 hp3
              refine (incipitref1_Put.calls K1 (j : Int) (put (j)) _ HK1.out).mono ?_
              rintro e x1 ⟨v1, rfl, ho, hb⟩
              obtain ⟨B1, d1, e1⟩ := Kd.R_slice ho
              subst e1
              have HT1 := Aside0.mk (HT.out.below hb)
              have HP1 := Aside0.mk (Kd.R_reads' ho).2.2
              clear ho hb HT HK1
              go_wp2_with (first | ((with_reducible refine gate_builtin (b := .append) (xs := #[.tmp 61, .tmp 64]) rfl ?_); at_builtin; refine Kd.R_append_rows (Kd.int .u8) (w0 := w) (W := x1) w.heap.size rfl (.tmp 61) (.tmp 64) 28 5 (.int .u8 0) 1 rfl Try.underlying28 info5 rfl (by decide) (by omega) (.slice A3 s.b.length c3) s.b (put (j)) B1 (put (j)).length d1 (fun _ => True) (fun _ => False) rfl rfl ?aO ?aR (fun _ _ h => h) (fun _ h => h.elim) ?aF ?aB ?aS ?aL ?_; (case aO => exact HT1.out.2.1); (case aR => exact HP1.out); (case aF => exact (fun _ _ => trivial)); (case aB => exact HT1.out.1); (case aS => exact below_size HT1.out.1); (case aL => have := HLM.out; omega); intro v2 x2 ho2 hb2 hg2 hat2; obtain ⟨B2, d2, e2⟩ := Kd.R_slice ho2; obtain ⟨n2, hn2⟩ : ∃ n2, Aside0 (n2 = (s.b ++ put (j)).length) := ⟨_, ⟨rfl⟩⟩; rw [← hn2.out] at e2; subst e2; have HT2 := Aside0.mk (HT1.out.app_b ho2 hb2 hg2 hat2); have g02 := (hcell.out _ HT2.out.1).1; clear ho2 hb2 hg2 hat2))
              refine (incipitref1_Put.calls K2 ((y.f0.size - j : Nat) : Int) (put (y.f0.size - j)) _ HK2.out).mono ?_
              rintro e x3 ⟨v1, rfl, ho, hb⟩
              obtain ⟨B3, d3, e1⟩ := Kd.R_slice ho
              subst e1
              have HT3 := Aside0.mk (HT2.out.below hb)
              have HP3 := Aside0.mk (Kd.R_reads' ho).2.2
              clear ho hb HT1 HT2 HP1 g02 HK2
              go_wp2_with (first | ((with_reducible refine gate_builtin (b := .append) (xs := #[.tmp 66, .tmp 76]) rfl ?_); at_builtin; refine Kd.R_append_rows (Kd.int .u8) (w0 := w) (W := x3) w.heap.size rfl (.tmp 66) (.tmp 76) 28 5 (.int .u8 0) 1 rfl Try.underlying28 info5 rfl (by decide) (by omega) (.slice B2 n2 d2) (s.b ++ put (j)) (put (y.f0.size - j)) B3 (put (y.f0.size - j)).length d3 (fun _ => True) (fun _ => False) rfl rfl ?aO ?aR (fun _ _ h => h) (fun _ h => h.elim) ?aF ?aB ?aS ?aL ?_; (case aO => exact HT3.out.2.1); (case aR => exact HP3.out); (case aF => exact (fun _ _ => trivial)); (case aB => exact HT3.out.1); (case aS => exact below_size HT3.out.1); (case aL => have := HLM.out; rw [List.length_append]; omega); intro v4 x4 ho2 hb2 hg2 hat2; obtain ⟨B4, d4, e2⟩ := Kd.R_slice ho2; obtain ⟨n4, hn4⟩ : ∃ n4, Aside0 (n4 = (s.b ++ put (j) ++ put (y.f0.size - j)).length) := ⟨_, ⟨rfl⟩⟩; rw [← hn4.out] at e2; subst e2; have HT4 := Aside0.mk (HT3.out.app_b ho2 hb2 hg2 hat2); have g14 := (hcell.out _ HT4.out.1).2; clear ho2 hb2 hg2 hat2))
              refine (incipitref1_Put.calls K3 (y.f1.size : Int) (put y.f1.size) _ HK3.out).mono ?_
              rintro e x5 ⟨v1, rfl, ho, hb⟩
              obtain ⟨B5, d5, e1⟩ := Kd.R_slice ho
              subst e1
              have HT5 := Aside0.mk (HT4.out.below hb)
              have HP5 := Aside0.mk (Kd.R_reads' ho).2.2
              clear ho hb HT3 HT4 HP3 g14 HK3 hn2
              go_wp2_with (first
                | ((with_reducible refine gate_builtin (b := .append) (xs := #[.tmp 78, .tmp 86]) rfl ?_); at_builtin; refine Kd.R_append_rows (Kd.int .u8) (w0 := w) (W := x5) w.heap.size rfl (.tmp 78) (.tmp 86) 28 5 (.int .u8 0) 1 rfl Try.underlying28 info5 rfl (by decide) (by omega) (.slice B4 n4 d4) (s.b ++ put (j) ++ put (y.f0.size - j)) (put y.f1.size) B5 (put y.f1.size).length d5 (fun _ => True) (fun _ => False) rfl rfl ?aO ?aR (fun _ _ h => h) (fun _ h => h.elim) ?aF ?aB ?aS ?aL ?_; (case aO => exact HT5.out.2.1); (case aR => exact HP5.out); (case aF => exact (fun _ _ => trivial)); (case aB => exact HT5.out.1); (case aS => exact below_size HT5.out.1); (case aL => have := HLM.out; rw [List.length_append, List.length_append]; omega); intro v6 x6 ho2 hb2 hg2 hat2; obtain ⟨B6, d6, e2⟩ := Kd.R_slice ho2; obtain ⟨n6, hn6⟩ : ∃ n6, Aside0 (n6 = (s.b ++ put (j) ++ put (y.f0.size - j) ++ put y.f1.size).length) := ⟨_, ⟨rfl⟩⟩; rw [← hn6.out] at e2; subst e2; have HT6 := Aside0.mk (HT5.out.app_b ho2 hb2 hg2 hat2); have g06 := (hcell.out _ HT6.out.1).1; clear ho2 hb2 hg2 hat2)
                | ((with_reducible refine gate_builtin (b := .append) (xs := #[.tmp 88, .tmp 95]) rfl ?_); at_builtin; refine R_append_str (w0 := w) (W := x6) w.heap.size rfl (.tmp 88) (.tmp 95) 28 9 5 rfl Try.underlying28 Try.underlying9 info5 (.slice B6 n6 d6) (s.b ++ put (j) ++ put (y.f0.size - j) ++ put y.f1.size) (y.f0.extract j y.f0.size) (fun _ => True) rfl rfl ?aO ?aF ?aB ?aS ?aL ?_; (case aO => exact HT6.out.2.1); (case aF => exact (fun _ _ => trivial)); (case aB => exact HT6.out.1); (case aS => exact below_size HT6.out.1); (case aL => have := HLM.out; rw [List.length_append, List.length_append, List.length_append, ByteArray.size_extract]; omega); intro v7 x7 ho2 hb2 hg2 hat2; obtain ⟨B7, d7, e2⟩ := Kd.R_slice ho2; obtain ⟨n7, hn7⟩ : ∃ n7, Aside0 (n7 = (s.b ++ put (j) ++ put (y.f0.size - j) ++ put y.f1.size ++ bytesOf (y.f0.extract j y.f0.size)).length) := ⟨_, ⟨rfl⟩⟩; rw [← hn7.out] at e2; subst e2; have HT7 := Aside0.mk (HT6.out.app_b ho2 hb2 hg2 hat2); have g17 := (hcell.out _ HT7.out.1).2; clear ho2 hb2 hg2 hat2)
                | ((with_reducible refine gate_builtin (b := .append) (xs := #[.tmp 97, .tmp 102]) rfl ?_); at_builtin; refine R_append_str (w0 := w) (W := x7) w.heap.size rfl (.tmp 97) (.tmp 102) 28 9 5 rfl Try.underlying28 Try.underlying9 info5 (.slice B7 n7 d7) (s.b ++ put (j) ++ put (y.f0.size - j) ++ put y.f1.size ++ bytesOf (y.f0.extract j y.f0.size)) y.f1 (fun _ => True) rfl rfl ?aO ?aF ?aB ?aS ?aL ?_; (case aO => exact HT7.out.2.1); (case aF => exact (fun _ _ => trivial)); (case aB => exact HT7.out.1); (case aS => exact below_size HT7.out.1); (case aL => have := HLM.out; rw [List.length_append, List.length_append, List.length_append, List.length_append, bytesOf_length, ByteArray.size_extract]; omega); intro v8 x8 ho2 hb2 hg2 hat2; obtain ⟨B8, d8, e2⟩ := Kd.R_slice ho2; obtain ⟨n8, hn8⟩ : ∃ n8, Aside0 (n8 = (s.b ++ put (j) ++ put (y.f0.size - j) ++ put y.f1.size ++ bytesOf (y.f0.extract j y.f0.size) ++ bytesOf y.f1).length) := ⟨_, ⟨rfl⟩⟩; rw [← hn8.out] at e2; subst e2; have HT8 := Aside0.mk (HT7.out.app_b ho2 hb2 hg2 hat2); clear ho2 hb2 hg2 hat2))
              have hsh : s.sh y.f0 = j := hsheq
              have hbE : (addT s y.f0 y.f1).b = s.b ++ put (j) ++ put (y.f0.size - j) ++ put y.f1.size ++ bytesOf (y.f0.extract j y.f0.size) ++ bytesOf y.f1 := by
                simp only [addT, hsh, bytesOf_extract_from, List.append_assoc]
              have hpE : (addT s y.f0 y.f1).p = s.p := by
                simp only [addT, hsr, if_neg h4]
              have HS2 : Aside0 (addT s y.f0 y.f1 = addTs St0 ((L.take (i + 1)).map cv)) := ⟨by rw [htk, List.map_append, addTs_app, ← HS.out]; rfl⟩
              rw [← hbE] at HT8 hn8
              rw [← hpE] at HT8
              have hr2 : (addT s y.f0 y.f1).rows = i + 1 := by show s.rows + 1 = i + 1; rw [hsr]
              have hbb := addT_bounds s y.f0 y.f1 (by omega) (by omega)
              have hb2 : (addT s y.f0 y.f1).b.length ≤ (30 + M) * (i + 1) := by rw [Nat.mul_succ]; omega
              have hp2 : (addT s y.f0 y.f1).p.length ≤ 4 * (i + 1) := by omega
              have hp4 : (addT s y.f0 y.f1).p.length % 4 = 0 := by rw [hpE]; exact hs4
              have hs5 : s.p.length / 4 = (addT s y.f0 y.f1).p.length / 4 := by rw [hpE]; skip
              have hn8' := hn8.out
              subst hn8'

              go_roundg kk
              case measure => omega
              case rel => exact ⟨i + 1, addT s y.f0 y.f1, B8, A4, d8, c4, rfl, by rw [hpE], congrArg (Value.int .i64) (by have := hs5; omega), rfl, by omega, HS2, hr2, hb2, hp2, hp4, HT8⟩
end Go.Proofs.Ytoglanahjlfihaa.MBlk
