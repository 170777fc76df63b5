import Derived.Test.YtoglanahjlfihaaHBlk13
import Derived.Test.YtoglanahjlfihaaHBlk15
namespace Go.Proofs.Ytoglanahjlfihaa.MBlk
open Go.RowKit Go.Proofs.Ytoglanahjlfihaa.QBlk Go.Proofs.YtoglanahjlfihaaW.PrintWords Go.Proofs.YtoglanahjlfihaaW.PrintLast Go.Proofs.YtoglanahjlfihaaW.PrintMore
set_option linter.unusedVariables false
set_option linter.unusedSimpArgs false
attribute [local go_sem] max2_int min2_int max_two min_two max_three min_three max_four min_four
theorem two_conv2 (W : World) (i : Nat) (g : Nat) (hg : g = W.heap.size) : (convert 28 9 (.slice (some ⟨g, 0, none⟩) 2 2)).run Try.prog (W.alloc (Obj.cells #[Value.int IntKind.u8 (97 + (i : Int) / 26), Value.int IntKind.u8 (97 + (i : Int) % 26)] 5)) = .ok (.string (two i)) (W.alloc (Obj.cells #[Value.int IntKind.u8 (97 + (i : Int) / 26), Value.int IntKind.u8 (97 + (i : Int) % 26)] 5)) := by
  subst hg
  refine run_convert_bytes_arg _ 28 5 Try.underlying28 Try.underlying5 W.heap.size 0 2 2 [97 + (i : Int) / 26, 97 + (i : Int) % 26] rfl (fun j hj => ?_) 9 Try.underlying9
  have h0 : j = 0 ∨ j = 1 := by have hj : j < 2 := hj; omega
  rcases h0 with rfl | rfl <;> (rw [World.cell?_alloc_at _ _ _ _ (by simp)]; rfl)
theorem cpl_app : ∀ p a b : List Int, cpl (p ++ a) (p ++ b) = p.length + cpl a b
  | [], a, b => by simp
  | x :: p, a, b => by
    rw [List.cons_append, List.cons_append, cpl, if_pos rfl, cpl_app p a b, List.length_cons]; omega
/-- Small blocks. -/
def Small (m n : Nat) (s : St) : Prop := s.p.length = 4 * ((n + 3) / 4) ∧ s.b.length ≤ (n + 3) / 4 * m + 6 * n
theorem Small.step {m n : Nat} {p : ByteArray} {s : St} (hp : p.size = m) (hm : m ≤ 200) (hn : n < 60) (hL : Laid (m + 2) (rowsP p ⟨#[]⟩ n) s) (h : Small m n s) : Small m (n + 1) (addT s (keyP p n) ⟨#[]⟩) := by
  obtain ⟨h1, h2⟩ := h
  have hks : (keyP p n).size = m + 2 := by unfold keyP; rw [ByteArray.size_append, hp]; rfl
  have hr : s.rows = n := by rw [hL.rows, rowsP_length]
  by_cases h4 : n % 4 = 0
  · have hsh : s.sh (keyP p n) = 0 := by unfold St.sh; rw [hr, if_pos h4]
    have hg : (n + 1 + 3) / 4 = (n + 3) / 4 + 1 := by omega
    have hp1 := put_length 1 (m + 2) (by omega)
    refine ⟨?_, ?_⟩
    · simp only [addT, hr, if_pos h4, List.length_append, fix_length]
      omega
    · simp only [addT, hsh, List.length_append, List.length_drop, bytesOf_length, hks, hg, Nat.sub_zero]
      have e1 : (put 0).length = 1 := by rw [put_small (by decide)]; rfl
      rw [show (⟨#[]⟩ : ByteArray).size = 0 from rfl, e1, Nat.add_mul]
      omega
  · have hg : (n + 1 + 3) / 4 = (n + 3) / 4 := by omega
    have hsh : s.sh (keyP p n) = cpl (bytesOf s.last) (bytesOf (keyP p n)) := by unfold St.sh; rw [hr, if_neg h4]
    have hge : m ≤ s.sh (keyP p n) := by
      obtain ⟨q, rfl⟩ : ∃ q, n = q + 1 := ⟨n - 1, by omega⟩
      have hl : s.last = keyP p q := by rw [hL.ts, rowsP_succ, addTs_app]; rfl
      rw [hsh, hl]
      unfold keyP
      rw [bytesOf_app, bytesOf_app, cpl_app, bytesOf_length, hp]
      omega
    have hle := (sh_le s (keyP p n)).2
    rw [hks] at hle
    have hp1 := put_length 1 (s.sh (keyP p n)) (by omega)
    have hp2 := put_length 0 (m + 2 - s.sh (keyP p n)) (by omega)
    refine ⟨?_, ?_⟩
    · simp only [addT, hr, if_neg h4]
      omega
    · simp only [addT, List.length_append, List.length_drop, bytesOf_length, hks, hg]
      have e1 : (put 0).length = 1 := by rw [put_small (by decide)]; rfl
      rw [show (⟨#[]⟩ : ByteArray).size = 0 from rfl, e1]
      omega
set_option maxHeartbeats 8000000 in
set_option maxRecDepth 100000 in
theorem incipitlaw16_BlockShares.calls (n0 m0 : Int) (w : World) : Calls Try.prog 13 #[.int .i64 n0, .int .i64 m0] w fun e w' => e = .returned (.bool true) ∧ Below w.heap.size w w' := by
  by_cases hn : n0 < 0 ∨ n0 > 60 ∨ m0 < 0 ∨ m0 > 200
  · go_enter Try.func13, Try.ntmps13
    go_wp2_with (fail)
    refine (incipitlaw16_begun.calls w).mono ?_
    rintro e w1 ⟨rfl, hb⟩
    by_cases h0 : n0 < 0
    · have h0b : (n0 < 0) = True := eq_true h0
      go_wp2_with (fail)
      go_ret
      exact ⟨rfl, hb⟩
    · have h0b : (n0 < 0) = False := eq_false h0
      by_cases h1 : n0 > 60
      · have h1b : (60 < n0) = True := eq_true h1
        go_wp2_with (fail)
        go_ret
        exact ⟨rfl, hb⟩
      · have h1b : (60 < n0) = False := eq_false h1
        by_cases h2 : m0 < 0
        · have h2b : (m0 < 0) = True := eq_true h2
          go_wp2_with (fail)
          go_ret
          exact ⟨rfl, hb⟩
        · have h2b : (m0 < 0) = False := eq_false h2
          have h3b : (200 < m0) = True := eq_true (by omega)
          go_wp2_with (fail)
          go_ret
          exact ⟨rfl, hb⟩
  · obtain ⟨n, rfl⟩ := Int.eq_ofNat_of_zero_le (a := n0) (by omega)
    obtain ⟨m, rfl⟩ := Int.eq_ofNat_of_zero_le (a := m0) (by omega)
    have hn1 : n ≤ 60 := by omega
    have hm1 : m ≤ 200 := by omega
    have h0b : ((n : Int) < 0) = False := eq_false (by omega)
    have h1b : (60 < (n : Int)) = False := eq_false (by omega)
    have h1c : (60 < n) = False := eq_false (by omega)
    have h2b : ((m : Int) < 0) = False := eq_false (by omega)
    have h3b : (200 < (m : Int)) = False := eq_false (by omega)
    have h3c : (200 < m) = False := eq_false (by omega)
    clear hn
    go_enter Try.func13, Try.ntmps13
    go_wp2_with (fail)
    refine (incipitlaw16_begun.calls w).mono ?_
    rintro e w1 ⟨rfl, hb⟩
    have HB1 := Aside0.mk hb
    clear hb
    go_wp2_with (fail)
    refine (block_NewS.calls w w1 HB1.out).mono ?_
    rintro e w2 ⟨g, rfl, hI, hb, _⟩
    have HI : Aside0 (BldS w w2 g St0) := ⟨hI⟩
    clear hI hb HB1
    go_wp2_with (first | ((with_reducible refine gate_dst (N := 31) rfl ?_); refine Kd.R_make (Kd.int .u8) (w0 := w2) w2.heap.size 5 rfl (N := 31) rfl 28 _ _ rfl (m : Int) rfl rfl Try.underlying28 (.int .u8 0) 1 info5 rfl (by decide) (by omega) 0 (ok := fun _ => True) (okp := fun _ => True) rfl (fun _ hk => hk) trivial (by omega) (by omega) (Below.refl _ _) (Nat.le_refl _) ?_; intro v1 w3 ho hb hg hat; obtain ⟨A3, c3, e3⟩ := Kd.R_slice ho; obtain ⟨nl, hnl⟩ : ∃ nl, Aside0 (nl = (List.replicate (m : Int).toNat (0 : Int)).length) := ⟨_, ⟨rfl⟩⟩; rw [← hnl.out] at e3; subst e3; have HB3 := Aside0.mk hb; obtain ⟨p, hp⟩ : ∃ p, Aside0 (strOfNums (List.replicate (m : Int).toNat (0 : Int)) = p) := ⟨_, ⟨rfl⟩⟩; have hcv : (convert 28 9 (.slice A3 nl c3)).run Try.prog w3 = .ok (.string p) w3 := (by have h_ := Kd.C_string Try.underlying28 Try.underlying5 Try.underlying9 (c := c3) (Kd.R_reads' ho).2.2; rw [← hnl.out, hp.out] at h_; exact h_); clear ho hb hg hat))
    have hps : p.size = m := by rw [← hp.out, strOfNums_size', List.length_replicate]; rfl
    have HI3 : Aside0 (BldS w w3 g St0) := ⟨HI.out.below HB3.out⟩
    clear h0b h1b h1c h2b h3b h3c hcv HI HB3 hnl hp
    go_loopg [8] n (fun kq s8 wr => ∃ (i : Nat) (s : St), s8 = .int .i64 i ∧ i + kq = n ∧ Aside0 (Laid (m + 2) (rowsP p ⟨#[]⟩ i) s) ∧ Aside0 (Small m i s) ∧ Aside0 (BldS w wr g s))
    case atStart => exact ⟨0, St0, rfl, by omega, ⟨Laid.nil _⟩, ⟨rfl, Nat.zero_le _⟩, HI3⟩
    case round =>
      clear HI3
      obtain ⟨i, s, rfl, hi, HL, HS, HI⟩ := hrel
      cases gk with
      | zero =>
        have hit : ((i : Int) < (n : Int)) = False := eq_false (by omega)
        have hit2 : (i < n) = False := eq_false (by omega)
        obtain rfl : i = n := by omega
        have hw3 : IntKind.i64.wrap ((i : Int) + 3) = (i : Int) + 3 := i64id (by omega)
        go_wp2_with (fail)
        have hbl := HL.out.bl
        have hpl := HL.out.pl
        rw [rowsP_length] at hbl hpl
        have hm2 : (30 + (m + 2)) * i ≤ 232 * i := Nat.mul_le_mul_right _ (by omega)
        have hbd : s.b.length < 100000 ∧ s.p.length < 100000 := by omega
        refine (block_BytesS.calls w wr g s HI.out (by omega) (by omega)).mono ?_
        rintro e w5 ⟨v, rfl, hv, hI, hb⟩
        have hol := HL.out.out_len
        have hred := HL.out.read (by rw [rowsP_length]; omega)
        obtain ⟨A5, c5, e5⟩ := Kd.R_slice hv
        subst e5
        have HV := Aside0.mk hv
        have HI5 := Aside0.mk hI
        have HY := Aside0.mk HL.out.out_bytes
        have HR := Aside0.mk hred
        have hol3 : s.out.length ≤ 30000 := by omega
        clear hv hI hb HI HL hbl hpl hol hred hit hit2 hm2
        go_wp2_with (fail)
        refine (block_Read.calls A5 c5 s.out w5 (Kd.R_reads' HV.out).2.2 (Kd.R_reads' HV.out).2.1 HY.out hol3 _ HR.out).mono ?_
        rintro e w6 ⟨v, er, rfl, hb6, rfl, hL⟩
        obtain ⟨A6, c6, e6⟩ := Kd.R_slice hL
        rw [rowsP_length] at e6
        subst e6
        have HI6 := Aside0.mk (HI5.out.below hb6)
        clear hL hb6 HI5 HV HY HR
        go_wp2_with (fail)
        refine (block_Size.calls w w6 g s.rows s.last s.b s.p HI6.out (by omega) (by omega)).mono ?_
        rintro e w7 ⟨rfl, hI, hb⟩
        have HB := Aside0.mk (show Below w.heap.size w w7 from BldS.base (s := s) hI)
        obtain ⟨gq, hgq⟩ : ∃ gq : Nat, gq = (i + 3) / 4 := ⟨_, rfl⟩
        have hgq1 : ((i : Int) + 3) / 4 = (gq : Int) := by omega
        have hs := HS.out
        unfold Small at hs
        rw [← hgq] at hs
        obtain ⟨pr, hpr⟩ : ∃ pr : Nat, pr = gq * (m + 4) := ⟨_, rfl⟩
        have hpr1 : (gq : Int) * ((m : Int) + 4) = (pr : Int) := by rw [hpr]; push_cast; rfl
        have hpr2 : pr ≤ 15 * 204 := by rw [hpr]; exact Nat.mul_le_mul (by omega) (by omega)
        have hpr3 : pr = gq * m + 4 * gq := by rw [hpr, Nat.mul_add]; omega
        generalize gq * m = gm at hs hpr3
        have hv1 : IntKind.i64.wrap ((m : Int) + 4) = (m : Int) + 4 := i64id (by omega)
        have hv2 : IntKind.i64.wrap (pr : Int) = (pr : Int) := i64id (by omega)
        have hv3 : IntKind.i64.wrap ((i : Int) * 10) = (i : Int) * 10 := i64id (by omega)
        have hv4 : IntKind.i64.wrap ((pr : Int) + (i : Int) * 10) = (pr : Int) + (i : Int) * 10 := i64id (by omega)
        have hv5 : IntKind.i64.wrap ((pr : Int) + (i : Int) * 10 + 4) = (pr : Int) + (i : Int) * 10 + 4 := i64id (by omega)
        have ht1 : ((s.b.length : Int) + s.p.length + 4 ≤ (pr : Int) + (i : Int) * 10 + 4) = True := eq_true (by omega)
        have ht2 : ((s.b.length : Int) + s.p.length ≤ (pr : Int) + (i : Int) * 10) = True := eq_true (by omega)
        clear hI hb HI6 hs hpr hpr2 hpr3 hgq HS hbd hol3 hn1 hi hw3
        go_wp2_with (fail)
        go_ret
        exact ⟨rfl, HB.out⟩
      | succ kk =>
        have hit : ((i : Int) < (n : Int)) = True := eq_true (by omega)
        have hit2 : (i < n) = True := eq_true (by omega)
        have hw64 : IntKind.i64.wrap ((i : Int) + 1) = ((i + 1 : Nat) : Int) := i64id (by omega)
        have hbl := HL.out.bl
        have hpl := HL.out.pl
        have hrw := HL.out.rows
        have hla := HL.out.last
        rw [rowsP_length] at hbl hpl hrw
        have hks : (keyP p i).size = m + 2 := by unfold keyP; rw [ByteArray.size_append, hps]; rfl
        have hvs : (⟨#[]⟩ : ByteArray).size = 0 := rfl
        have hab := addB_P HL.out (show i < 199 by omega)
        have hbd : s.rows < 1000000000 ∧ s.last.size < 1000000 ∧ (keyP p i).size < 1000000 ∧ (⟨#[]⟩ : ByteArray).size < 1000000 ∧ s.b.length < 4294967296 ∧ s.p.length < 4294967296 := by
          have hm2 : (30 + (m + 2)) * i ≤ 232 * i := Nat.mul_le_mul_right _ (by omega)
          omega
        have HL2 : Aside0 (Laid (m + 2) (rowsP p ⟨#[]⟩ (i + 1)) (addT s (keyP p i) ⟨#[]⟩)) := ⟨by rw [rowsP_succ]; exact HL.out.step hab (by omega) (by omega) (by omega)⟩
        have HS2 : Aside0 (Small m (i + 1) (addT s (keyP p i) ⟨#[]⟩)) := ⟨HS.out.step hps hm1 (by omega) HL.out⟩
        have hcon : (9223372036854775807 < m + 2) = False := eq_false (by omega)
        have hbd := Aside0.mk hbd
        have hab := Aside0.mk hab
        clear HS HL hbl hpl hrw hla hks hvs
        have hcv := two_conv2 wr i _ rfl
        have hsz : (two i).size = 2 := rfl
        go_wp2_with (fail)
        rw [show p ++ two i = keyP p i from rfl]
        refine (block_Add.calls w _ g s (keyP p i) ⟨#[]⟩ (HI.out.below (below_alloc (Below.refl _ _) _)) hbd.out.1 hbd.out.2.1 hbd.out.2.2.1 hbd.out.2.2.2.1 hbd.out.2.2.2.2.1 hbd.out.2.2.2.2.2).mono ?_
        rintro e w4 ⟨rfl, hI, _⟩
        rw [hab.out, if_pos rfl] at hI
        rw [hab.out]
        have HI2 := Aside0.mk hI
        clear hI HI hcv hbd hab hsz
        go_wp2_with (fail)
        go_roundg kk
        case measure => omega
        case rel => exact ⟨i + 1, _, rfl, by omega, HL2, HS2, HI2⟩
end Go.Proofs.Ytoglanahjlfihaa.MBlk
