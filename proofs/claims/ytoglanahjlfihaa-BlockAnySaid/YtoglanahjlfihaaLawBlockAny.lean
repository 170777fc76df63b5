/- incipitlaw16.BlockAny: any bytes are a block's, or are spoilt. For all rows, every place, byte, rest and cut. -/
import Derived.Test.YtoglanahjlfihaaRows
import Derived.Test.YtoglanahjlfihaaHBlk19
import Derived.Test.YtoglanahjlfihaaHBlk20
import Derived.Test.YtoglanahjlfihaaHBlk21
import Derived.Test.YtoglanahjlfihaaQBlkOpen
import Derived.WalkKit
import Derived.ProofKit
import Derived.OpenShut
import Derived.ShutString
import Derived.ChangeOld
import Derived.Below
import Derived.SizedLaws
namespace Go.Proofs.Ytoglanahjlfihaa.MBlk
open Go.RowKit Go.Proofs.Ytoglanahjlfihaa.QBlk Go.Proofs.YtoglanahjlfihaaW.PrintWords Go.Proofs.YtoglanahjlfihaaW.PrintLast Go.Proofs.YtoglanahjlfihaaW.PrintMore
set_option linter.unusedVariables false
set_option linter.unusedSimpArgs false
theorem bits_xor_nat (k : IntKind) (hk : ∀ n : Int, 0 ≤ n → n < 2 ^ k.bits → k.wrap n = n) (a b : Nat) (ha : a < 2 ^ k.bits) (hb : b < 2 ^ k.bits) : Go.bits .xor k a b = ((a ^^^ b : Nat) : Int) := by
  have ha' : a % 2 ^ k.bits = a := Nat.mod_eq_of_lt ha
  have hb' : b % 2 ^ k.bits = b := Nat.mod_eq_of_lt hb
  simp only [Go.bits, BitVec.ofInt_natCast, BitVec.toNat_xor, BitVec.toNat_ofNat, ha', hb']
  exact hk _ (Int.natCast_nonneg _) (by exact_mod_cast Nat.xor_lt_two_pow ha hb)
theorem u32w (n : Int) (h0 : 0 ≤ n) (h1 : n < 2 ^ 32) : IntKind.u32.wrap n = n := by rw [IntKind.wrap_u32]; omega
theorem u8w (n : Int) (h0 : 0 ≤ n) (h1 : n < 2 ^ 8) : IntKind.u8.wrap n = n := by rw [IntKind.wrap_u8]; omega
theorem xor8 {a b : Nat} (ha : a < 256) (hb : b < 256) : Go.bits .xor .u8 (a : Int) (b : Int) = ((a ^^^ b : Nat) : Int) := bits_xor_nat .u8 u8w a b ha hb
theorem xor_byte {x y : Int} (h0 : 0 ≤ x) (h1 : x < 256) (h2 : 0 ≤ y) (h3 : y < 256) : 0 ≤ Go.bits .xor .u8 x y ∧ Go.bits .xor .u8 x y < 256 := by
  obtain ⟨a, rfl⟩ := Int.eq_ofNat_of_zero_le h0
  obtain ⟨b, rfl⟩ := Int.eq_ofNat_of_zero_le h2
  rw [xor8 (by omega) (by omega)]
  have := Nat.xor_lt_two_pow (n := 8) (x := a) (y := b) (by omega) (by omega)
  omega
theorem bytes_set {l : List Int} (h : Bytes l) (q : Nat) {x : Int} (hx : 0 ≤ x ∧ x < 256) : Bytes (l.set q x) := by
  intro c hc
  rcases List.mem_or_eq_of_mem_set hc with hc | rfl
  · exact h c hc
  · exact hx
theorem readS_len {l : List Int} {q : List S68} (h : readS l = some q) (hl : l.length ≤ 30000) : q.length ≤ 30000 := by
  have hf := (rowsOf_fit hl).1
  unfold readS at h
  by_cases h4 : l.length < 4
  · rw [if_pos h4] at h; cases h
  · rw [if_neg h4] at h
    by_cases h5 : l.length < 4 * (cnt l + 1)
    · rw [if_pos h5] at h; cases h
    · rw [if_neg h5] at h
      split at h
      · injection h with h; subst h; exact hf
      · cases h
set_option maxHeartbeats 8000000 in
set_option maxRecDepth 100000 in
theorem incipitlaw16_BlockAny.calls (A0 : Option Addr) (c0 : Nat) (L : List S68) (at1 : Int) (x1 : Int) (A3 : Option Addr) (c3 : Nat) (rest : List Int) (cut1 : Int) (w : World) (hr0 : Kd.C k68 w A0 L.length L) (hc0 : L.length ≤ c0) (hr3 : Kd.C (Kd.int .u8) w A3 rest.length rest) (hc3 : rest.length ≤ c3) (hby : Bytes rest) (hx : 0 ≤ x1 ∧ x1 < 256) : Calls Try.prog 10 #[.slice A0 L.length c0, .int .i64 at1, .int .u8 x1, .slice A3 rest.length c3, .int .i64 cut1] w fun e w' => e = .returned (.bool true) ∧ Below w.heap.size w w' := by
  have HR := Aside0.mk hr0
  have HR3 := Aside0.mk hr3
  have HBY := Aside0.mk hby
  clear hr0 hr3 hby
  go_enter Try.func10, Try.ntmps10
  go_wp2_with (fail)
  refine (incipitlaw16_begun.calls w).mono ?_
  rintro e w1 ⟨rfl, hb⟩
  have HB1 := Aside0.mk hb
  clear hb
  obtain ⟨nn, hnn⟩ : ∃ nn, Aside0 (nn = min L.length 20) := ⟨_, ⟨rfl⟩⟩
  have hnn1 : nn ≤ 20 := by have := hnn.out; omega
  have hnn2 : nn ≤ L.length := by have := hnn.out; omega
  go_upto_region 5 with (fail)
  go_cut [13] (fun s13 wc => s13 = .int .i64 0 ∧ Aside0 (w1 = wc))
  case first =>
    go_wp2_with (fail)
    go_meet
    case rel => exact ⟨rfl, ⟨rfl⟩⟩
  case rest =>
  obtain ⟨rfl, hw1⟩ := hcut
  have hw1e := hw1.out
  subst hw1e
  clear hw1
  refine (by assumption : ∀ (a : Act) (w : World), Code.wp Try.prog (Code.block 0 _) _ a w → _) _ _ ?_
  go_cut [12, 13] (fun s12 s13 wr => ∃ (m : List S70) (s : St) (A7 : Option Addr) (c7 : Nat), s12 = .slice A7 m.length c7 ∧ m.length ≤ 20 ∧ Aside0 (∀ x ∈ m, x.f0.size ≤ 30 ∧ x.f1.size ≤ 30) ∧ Aside0 (Laid 60 (m.map cv) s) ∧ Aside0 (Below w.heap.size w wr) ∧ Aside0 (Kd.R k70 70 wr w.heap.size (fun _ => True) (.slice A7 m.length c7) m))
  case first =>
   go_wp2_with (fail)
   go_loopg [12, 13] nn (fun kq s12 s13 wr => ∃ (i : Nat) (m : List S70) (s : St) (A7 : Option Addr) (c7 : Nat), s12 = .slice A7 m.length c7 ∧ s13 = .int .i64 i ∧ i + kq = nn ∧ m.length ≤ i ∧ (∀ x ∈ m, x.f0.size ≤ 30 ∧ x.f1.size ≤ 30) ∧ Aside0 (Laid 60 (m.map cv) s) ∧ Aside0 (Below w.heap.size w wr) ∧ Aside0 (Kd.R k70 70 wr w.heap.size (fun _ => True) (.slice A7 m.length c7) m))
   case atStart => exact ⟨0, [], St0, none, 0, rfl, rfl, by omega, Nat.le_refl _, (fun x hx => absurd hx (by simp)), ⟨Laid.nil 60⟩, HB1, ⟨Kd.R_nil _ _ _ _ _⟩⟩
   case round =>
    obtain ⟨i, m, s, A7, c7, rfl, rfl, hi, hml, hmf, HL, HB, HM⟩ := hrel
    have HMF := Aside0.mk hmf
    clear hmf
    cases gk with
    | zero =>
      have hm20 : m.length ≤ 20 := by omega
      by_cases hiL : i < L.length
      · have hit : ((i : Int) < (L.length : Int)) = True := eq_true (by omega)
        have hit2 : (i < L.length) = True := eq_true hiL
        have hi40 : ((i : Int) < 20) = False := eq_false (by have := hnn.out; omega)
        have hi41 : (i < 20) = False := eq_false (by have := hnn.out; omega)
        go_wp2_with (fail)
        go_meet
        case rel => exact ⟨m, s, A7, c7, rfl, hm20, HMF, HL, HB, HM⟩
      · have hit : ((i : Int) < (L.length : Int)) = False := eq_false (by omega)
        have hit2 : (i < L.length) = False := eq_false hiL
        go_wp2_with (fail)
        go_meet
        case rel => exact ⟨m, s, A7, c7, rfl, hm20, HMF, HL, HB, HM⟩
    | succ kk =>
      have hit : ((i : Int) < (L.length : Int)) = True := eq_true (by omega)
      have hit2 : (i < L.length) = True := eq_true (by omega)
      have hi40 : ((i : Int) < 20) = True := eq_true (by omega)
      have hi41 : (i < 20) = True := eq_true (by omega)
      have hi0 : ((0 : Int) ≤ (i : Int)) = True := eq_true (by omega)
      obtain ⟨ad, rfl, g0, g1⟩ := at_T68 (Kd.C_below HR.out HB.out) (i : Int) (by omega) (by omega)
      rw [Int.toNat_natCast] at g0
      simp only [Int.toNat_natCast] at g1
      generalize rd_T68 L (i : Int) = y at g0 g1
      obtain ⟨k, hk, hks⟩ := cut_some y.f0 30
      obtain ⟨v, hv, hvs⟩ := cut_some y.f1 30
      have HK : Aside0 (incipitlaw1_Cut.f y.f0 30 = some k) := ⟨hk⟩
      have HV : Aside0 (incipitlaw1_Cut.f y.f1 30 = some v) := ⟨hv⟩
      have hw64 : IntKind.i64.wrap ((i : Int) + 1) = ((i + 1 : Nat) : Int) := i64id (by omega)
      clear hk hv
      rcases List.eq_nil_or_concat m with hm | ⟨m0, z, hm⟩
      · have hab : Aside0 (addB s k = true) := ⟨by
          unfold addB
          have hr := HL.out.rows
          rw [hr, hm]; rfl⟩
        subst hm
        go_wp2_with (fail)
        go_region_law (first
          | (go_simp; go_at_call 39; (with_reducible refine (incipitlaw1_Cut.calls y.f0 30 k _ HK.out).mono ?_); rintro e w' ⟨rfl, hd⟩; obtain ⟨n, rfl⟩ := hd.out; clear hd)
          | (go_simp; go_at_call 39; (with_reducible refine (incipitlaw1_Cut.calls y.f1 30 v _ HV.out).mono ?_); rintro e w' ⟨rfl, hd⟩; obtain ⟨n2, rfl⟩ := hd.out; clear hd))
        all_goals
          have HL4 : Aside0 (Laid 60 (([] : List S70).map cv ++ [⟨k, v⟩]) (addT s k v)) := ⟨HL.out.step hab.out (by omega) (by omega) (by omega)⟩
          go_wp2_with (first | ((with_reducible refine gate_builtin (b := .append) (xs := #[.tmp 62, .tmp 66]) rfl ?_); at_builtin; refine Kd.R_append k70 (w0 := w) (W := wr.drewN (1 + n + n2)) w.heap.size rfl (.tmp 62) (.tmp 66) 65 70 (.agg #[.string ⟨#[]⟩, .string ⟨#[]⟩]) 32 rfl Try.underlying65 info70 rfl (by decide) (by omega) (.slice A7 0 c7) ([] : List S70) ⟨k, v⟩ [.string k, .string v] (fun _ => True) (fun _ => False) rfl rfl ?aP (fun k hk => hk.elim) ?aF ?aO ?aB ?aS ?aL ?_; (case aP => exact k70_mkM _ _ _ _); (case aF => exact (fun _ _ => trivial)); (case aO => exact Kd.R_drewN HM.out _); (case aB => exact pw_below_drewN HB.out _); (case aS => exact below_size (pw_below_drewN HB.out _)); (case aL => ((try simp only [List.length_nil]); omega)); intro v5 w5 ho hb5 hg5 hat5; obtain ⟨A8, c8, e8⟩ := Kd.R_slice ho; subst e8; have HM5 := Aside0.mk ho; have HB5 := Aside0.mk hb5; clear ho hb5 hg5 hat5))
          go_roundg kk
          case measure => omega
          case rel => exact ⟨i + 1, ([] : List S70) ++ [⟨k, v⟩], addT s k v, A8, c8, by first | rfl | rw [List.length_append, List.length_singleton], rfl, by omega, by rw [List.length_append, List.length_singleton]; omega, (fun x hx => by rcases List.mem_append.1 hx with hx | hx; exact HMF.out x hx; rw [List.mem_singleton.1 hx]; exact ⟨hks, hvs⟩), ⟨by rw [List.map_append]; exact HL4.out⟩, HB5, HM5⟩
      · rw [List.concat_eq_append] at hm
        obtain ⟨q, hq⟩ : ∃ q, Aside0 (m.length = q + 1) := ⟨m0.length, ⟨by rw [hm, List.length_append, List.length_singleton]⟩⟩
        have hlast : s.last = z.f0 := by
          have h_ := HL.out.ts
          rw [hm, List.map_append, addTs_app] at h_
          rw [h_]; rfl
        have hzq : rd_T70 m (q : Int) = z := by
          unfold rd_T70
          have hq0 : q = m0.length := by have h_ := hq.out; rw [hm, List.length_append, List.length_singleton] at h_; omega
          rw [Int.toNat_natCast, hm, hq0, List.getD_eq_getElem?_getD, List.getElem?_append_right (Nat.le_refl _), Nat.sub_self]; rfl
        obtain ⟨ad7, e7, f0, _⟩ := at_T70 (Kd.R_reads' HM.out).2.2 (q : Int) (by omega) (by have := hq.out; omega)
        subst e7
        rw [Int.toNat_natCast, hzq] at f0
        have hwq : IntKind.i64.wrap ((m.length : Int) - 1) = (q : Int) := (i64id (by have := hq.out; omega)).trans (by have := hq.out; omega)
        have hq0 : ((0 : Int) ≤ (q : Int)) = True := eq_true (by omega)
        have hq1 : ((q : Int) < (m.length : Int)) = True := eq_true (by have := hq.out; omega)
        have hq2 : (q < m.length) = True := eq_true (by have := hq.out; omega)
        have hm0 : ((m.length : Int) == 0) = false := by rw [beq_eq_false_iff_ne]; have := hq.out; omega
        have hm1 : (m.length == 0) = false := by rw [beq_eq_false_iff_ne]; have := hq.out; omega
        have hm2 : ((m.length : Int) = 0) = False := eq_false (by have := hq.out; omega)
        have hm3 : (m.length = 0) = False := eq_false (by have := hq.out; omega)
        have hab0 : addB s k = Op.bytesLess s.last.toList k.toList := by
          unfold addB
          have hr := HL.out.rows
          rw [List.length_map, hq.out] at hr
          rw [hr]; rfl
        clear hm hzq
        by_cases hbl : Op.bytesLess s.last.toList k.toList = true
        · have hgt0 : binOp .gtr 9 (.string k) (.string z.f0) = pure (.bool true) := by rw [binOp_string_gtr_, ← hlast, hbl]
          have hab : Aside0 (addB s k = true) := ⟨hab0.trans hbl⟩
          clear hlast hab0 hbl
          go_wp2_with (fail)
          go_region_law (first
            | (go_simp; go_at_call 39; (with_reducible refine (incipitlaw1_Cut.calls y.f0 30 k _ HK.out).mono ?_); rintro e w' ⟨rfl, hd⟩; obtain ⟨n, rfl⟩ := hd.out; clear hd)
            | (go_simp; go_at_call 39; (with_reducible refine (incipitlaw1_Cut.calls y.f1 30 v _ HV.out).mono ?_); rintro e w' ⟨rfl, hd⟩; obtain ⟨n2, rfl⟩ := hd.out; clear hd))
          all_goals
            have HL4 : Aside0 (Laid 60 (m.map cv ++ [⟨k, v⟩]) (addT s k v)) := ⟨HL.out.step hab.out (by omega) (by omega) (by omega)⟩
            go_wp2_with (first | ((with_reducible refine gate_builtin (b := .append) (xs := #[.tmp 62, .tmp 66]) rfl ?_); at_builtin; refine Kd.R_append k70 (w0 := w) (W := wr.drewN (1 + n + n2)) w.heap.size rfl (.tmp 62) (.tmp 66) 65 70 (.agg #[.string ⟨#[]⟩, .string ⟨#[]⟩]) 32 rfl Try.underlying65 info70 rfl (by decide) (by omega) (.slice (some ad7) m.length c7) m ⟨k, v⟩ [.string k, .string v] (fun _ => True) (fun _ => False) rfl rfl ?aP (fun k hk => hk.elim) ?aF ?aO ?aB ?aS ?aL ?_; (case aP => exact k70_mkM _ _ _ _); (case aF => exact (fun _ _ => trivial)); (case aO => exact Kd.R_drewN HM.out _); (case aB => exact pw_below_drewN HB.out _); (case aS => exact below_size (pw_below_drewN HB.out _)); (case aL => ((try simp only [List.length_nil]); omega)); intro v5 w5 ho hb5 hg5 hat5; obtain ⟨A8, c8, e8⟩ := Kd.R_slice ho; subst e8; have HM5 := Aside0.mk ho; have HB5 := Aside0.mk hb5; clear ho hb5 hg5 hat5))
            go_roundg kk
            case measure => omega
            case rel => exact ⟨i + 1, m ++ [⟨k, v⟩], addT s k v, A8, c8, by first | rfl | rw [List.length_append, List.length_singleton], rfl, by omega, by rw [List.length_append, List.length_singleton]; omega, (fun x hx => by rcases List.mem_append.1 hx with hx | hx; exact HMF.out x hx; rw [List.mem_singleton.1 hx]; exact ⟨hks, hvs⟩), ⟨by rw [List.map_append]; exact HL4.out⟩, HB5, HM5⟩
        · have hbl2 : Op.bytesLess s.last.toList k.toList = false := by simpa using hbl
          have hgt0 : binOp .gtr 9 (.string k) (.string z.f0) = pure (.bool false) := by rw [binOp_string_gtr_, ← hlast, hbl2]
          clear hlast hab0 hbl hbl2
          go_wp2_with (fail)
          go_region_law (first
            | (go_simp; go_at_call 39; (with_reducible refine (incipitlaw1_Cut.calls y.f0 30 k _ HK.out).mono ?_); rintro e w' ⟨rfl, hd⟩; obtain ⟨n, rfl⟩ := hd.out; clear hd)
            | (go_simp; go_at_call 39; (with_reducible refine (incipitlaw1_Cut.calls y.f1 30 v _ HV.out).mono ?_); rintro e w' ⟨rfl, hd⟩; obtain ⟨n2, rfl⟩ := hd.out; clear hd))
          all_goals
            go_wp2_with (fail)
            go_roundg kk
            case measure => omega
            case rel => exact ⟨i + 1, m, s, some ad7, c7, rfl, rfl, by omega, by omega, HMF.out, HL, ⟨pw_below_drewN HB.out _⟩, ⟨Kd.R_drewN HM.out _⟩⟩
  case rest =>
    obtain ⟨m, s, A7, c7, rfl, hml, HMF, HL, HB, HM⟩ := hcut
    obtain ⟨wr, hwr⟩ : ∃ wr, wr = wc := ⟨_, rfl⟩
    subst hwr
    go_upto_region 11 with (fail)
    go_cut [16] (fun s16 wc => ∃ (A : Option Addr) (c : Nat) (l1 : List Int), s16 = .slice A l1.length c ∧ l1.length ≤ 3000 ∧ Aside0 (Bytes l1) ∧ Aside0 (Kd.R (Kd.int .u8) 5 wc w.heap.size (fun _ => True) (.slice A l1.length c) l1) ∧ Aside0 (Below w.heap.size w wc))
    case first =>
      go_wp2_with (fail)
      have hlb := HL.out.bl
      have hlp := HL.out.pl
      rw [List.length_map] at hlb hlp
      have hMF : ∀ x ∈ m, x.f0.size + x.f1.size ≤ 60 := fun x hx => by have := HMF.out x hx; omega
      refine (incipitref12_Block.calls A7 c7 m wr (Kd.R_reads' HM.out).2.2 (Kd.R_reads' HM.out).2.1 60 (by decide) hMF (by omega)).mono ?_
      rintro e w3 ⟨v3, rfl, hv3, hb3⟩
      rw [← HL.out.ts] at hv3
      obtain ⟨so, hso⟩ : ∃ so, Aside0 (so = s.out) := ⟨_, ⟨rfl⟩⟩
      have hsol : so.length ≤ 2500 := by rw [hso.out, HL.out.out_len]; omega
      have HSB : Aside0 (Bytes so) := ⟨by rw [hso.out]; exact HL.out.out_bytes⟩
      rw [← hso.out] at hv3
      obtain ⟨A5, c5, e5⟩ := Kd.R_slice hv3
      subst e5
      have HV3 := Aside0.mk (Kd.R_lower hv3 HB.out.size)
      have HB3 := Aside0.mk (below_step HB.out hb3)
      clear hv3 hb3 hMF hlb hlp HM HL HMF HB hso
      go_wp2_with (fail)
      refine (short_any A3 c3 rest (rest.take 10) 10 10 w3 rfl (by decide) hc3 rfl).mono ?_
      rintro e w4 ⟨rfl, rfl⟩
      have hrl : (rest.take 10).length ≤ 10 := by rw [List.length_take]; omega
      obtain ⟨rs, hrs⟩ : ∃ rs, Aside0 (rest.take 10 = rs) := ⟨_, ⟨rfl⟩⟩
      have HRS : Aside0 (Kd.C (Kd.int .u8) w A3 rs.length rs) := ⟨by rw [← hrs.out]; exact short_C HR3.out⟩
      have HRB : Aside0 (Bytes rs) := ⟨by rw [← hrs.out]; exact HBY.out.take 10⟩
      rw [hrs.out] at hrl ⊢
      go_wp2_with (first | ((with_reducible refine gate_builtin (b := .append) (xs := #[.tmp 69, .tmp 71]) rfl ?_); at_builtin; refine Kd.R_append_rows (Kd.int .u8) (w0 := w) (W := w3) w.heap.size rfl (.tmp 69) (.tmp 71) 28 5 (.int .u8 0) 1 rfl Try.underlying28 info5 rfl (by decide) (by omega) (.slice A5 so.length c5) so rs A3 rs.length c3 (fun _ => True) (fun _ => False) rfl rfl ?aO ?aR (fun _ _ h => h) (fun _ h => h.elim) ?aF ?aB ?aS ?aL ?_; (case aO => exact HV3.out); (case aR => exact Kd.C_below HRS.out HB3.out); (case aF => exact (fun _ _ => trivial)); (case aB => exact HB3.out); (case aS => exact below_size HB3.out); (case aL => omega); intro v5 w5 ho5 hb5 hg5 hat5; obtain ⟨A6, c6, e6⟩ := Kd.R_slice ho5; obtain ⟨bb, hbb⟩ : ∃ bb, Aside0 (so ++ rs = bb) := ⟨_, ⟨rfl⟩⟩; rw [hbb.out] at ho5 e6; subst e6; have HO5 := Aside0.mk ho5; have HB5 := Aside0.mk hb5; clear ho5 hb5 hg5 hat5))
      go_meet
      case rel => exact ⟨A6, c6, bb, rfl, by rw [← hbb.out, List.length_append]; omega, ⟨by rw [← hbb.out]; exact HSB.out.append HRB.out⟩, HO5, HB5⟩
    case rest =>
      clear HM HL HMF HB
      obtain ⟨A, c, l1, rfl, hl1, HBL, HO, HBC⟩ := hcut
      refine (by assumption : ∀ (a : Act) (w : World), Code.wp Try.prog (Code.seq (Code.seq (Code.region 12 _ _) _) _) _ a w → _) _ _ ?_
      refine wp_seq_k (fun K2 hK2 => ?_)
      go_cut [16] (fun s16 wd => ∃ (A : Option Addr) (c : Nat) (l1 : List Int), s16 = .slice A l1.length c ∧ l1.length ≤ 3000 ∧ Aside0 (Bytes l1) ∧ Aside0 (Kd.R (Kd.int .u8) 5 wd w.heap.size (fun _ => True) (.slice A l1.length c) l1) ∧ Aside0 (Below w.heap.size w wd))
      case first =>
        by_cases h1 : 0 < cut1 ∧ cut1 ≤ l1.length
        · have h1a : (0 < cut1) = True := eq_true h1.1
          have h1b : (cut1 ≤ (l1.length : Int)) = True := eq_true h1.2
          obtain ⟨q, hq⟩ : ∃ q : Nat, Aside0 ((l1.length : Int) - cut1 = q) := ⟨((l1.length : Int) - cut1).toNat, ⟨by omega⟩⟩
          have hqw : IntKind.i64.wrap ((l1.length : Int) - cut1) = (q : Int) := (i64id (by omega)).trans hq.out
          have hq1 : q ≤ l1.length := by have := hq.out; omega
          obtain ⟨hsl, _⟩ := C_takeI (Kd.R_reads' HO.out).2.2 hq1 (Kd.R_reads' HO.out).2.1
          have hql : (l1.take q).length = q := by rw [List.length_take]; omega
          clear h1
          go_wp2_with (fail)
          go_meet
          case rel => exact ⟨A, c, l1.take q, by rw [hql], by omega, ⟨HBL.out.take q⟩, ⟨by rw [hql]; exact Kd.R_take HO.out hq1⟩, HBC⟩
        · by_cases h2 : 0 < cut1
          · have h1a : (0 < cut1) = True := eq_true h2
            have h1b : (cut1 ≤ (l1.length : Int)) = False := eq_false (fun h => h1 ⟨h2, h⟩)
            clear h1
            go_wp2_with (fail)
            go_meet
            case rel => exact ⟨A, c, l1, rfl, hl1, HBL, HO, HBC⟩
          · have h1a : (0 < cut1) = False := eq_false h2
            clear h1
            go_wp2_with (fail)
            go_meet
            case rel => exact ⟨A, c, l1, rfl, hl1, HBL, HO, HBC⟩
      case rest =>
        clear HO HBC HBL
        obtain ⟨A, c, l1, rfl, hl1, HBL, HO, HBC⟩ := hcut
        refine hK2 _ _ ?_
        refine wp_seq_k (fun K3 hK3 => ?_)
        go_cut [16] (fun s16 wd => ∃ (A : Option Addr) (c : Nat) (l1 : List Int), s16 = .slice A l1.length c ∧ l1.length ≤ 3000 ∧ Aside0 (Bytes l1) ∧ Aside0 (Kd.R (Kd.int .u8) 5 wd w.heap.size (fun _ => True) (.slice A l1.length c) l1) ∧ Aside0 (Below w.heap.size w wd))
        case first =>
          by_cases h1 : 0 < l1.length
          · have h1a : (0 < l1.length) = True := eq_true h1
            have h1b : ((0 : Int) < (l1.length : Int)) = True := eq_true (by omega)
            by_cases h2 : 0 ≤ at1
            · have h2a : (0 ≤ at1) = True := eq_true h2
              obtain ⟨a1, rfl⟩ := Int.eq_ofNat_of_zero_le h2
              obtain ⟨q, hq⟩ : ∃ q : Nat, Aside0 (q = a1 % l1.length) := ⟨_, ⟨rfl⟩⟩
              have hql : q < l1.length := by rw [hq.out]; exact Nat.mod_lt _ h1
              have hq1 : (a1 : Int) % (l1.length : Int) = (q : Int) := by rw [hq.out]; omega
              have hq2 : (a1 : Int).tmod (l1.length : Int) = (q : Int) := by rw [Int.tmod_eq_emod_of_nonneg (by omega)]; exact hq1
              have hq3 : ((0 : Int) ≤ (q : Int)) = True := eq_true (by omega)
              have hq4 : ((q : Int) < (l1.length : Int)) = True := eq_true (by omega)
              have hq5 : (q < l1.length) = True := eq_true hql
              obtain ⟨gR, cap, eR, hgRw, _, _⟩ := Kd.R_form HO.out h1
              injection eR with e1 e2 e3
              subst e1
              subst e3
              obtain ⟨hcell, hfz⟩ := Kd.R_celln (0 : Int) HO.out (q : Int) (by omega) (by omega)
              rw [Int.toNat_natCast] at hcell hfz
              go_wp2_with (fail)
              go_meet
              case rel => exact ⟨some ⟨gR, 0, none⟩, c, l1.set q (Go.bits .xor .u8 (rdOf 0 l1 q) x1), by rw [List.length_set], by rw [List.length_set]; exact hl1, ⟨bytes_set HBL.out q (xor_byte (HBL.out.getD q).1 (HBL.out.getD q).2 hx.1 hx.2)⟩, ⟨by have h_ := Kd.R_putn HO.out (q : Int) (Go.bits .xor .u8 (rdOf 0 l1 q) x1); rw [Int.toNat_natCast] at h_; rw [List.length_set]; exact h_⟩, ⟨below_set HBC.out hgRw⟩⟩
            · have h2a : (0 ≤ at1) = False := eq_false h2
              go_wp2_with (fail)
              go_meet
              case rel => exact ⟨A, c, l1, rfl, hl1, HBL, HO, HBC⟩
          · have h1a : (0 < l1.length) = False := eq_false h1
            have h1b : ((0 : Int) < (l1.length : Int)) = False := eq_false (by omega)
            go_wp2_with (fail)
            go_meet
            case rel => exact ⟨A, c, l1, rfl, hl1, HBL, HO, HBC⟩
        case rest =>
          clear HO HBC HBL
          obtain ⟨A, c, l1, rfl, hl1, HBL, HO, HBC⟩ := hcut
          obtain ⟨wr, hwr⟩ : ∃ wr, wr = wc := ⟨_, rfl⟩
          subst hwr
          refine hK3 _ _ ?_
          clear hK3 hK2
          have hcl : l1.length ≤ c := (Kd.R_reads' HO.out).2.1
          have HC := Aside0.mk (Kd.R_reads' HO.out).2.2
          have hl3 : l1.length ≤ 30000 := by omega
          cases hrf : refS l1 with
          | none =>
            have HRF := Aside0.mk hrf
            have HRD : Aside0 (readS l1 = none) := ⟨by rw [read_ref l1 hl3, hrf]; rfl⟩
            clear hrf
            go_wp2_with (fail)
            refine (block_Read.calls A c l1 wr HC.out hcl HBL.out hl3 _ HRD.out).mono ?_
            rintro e w6 ⟨v, er, rfl, hb6, rfl, rfl⟩
            have HB6 := Aside0.mk hb6
            clear hb6
            go_wp2_with (fail)
            refine (incipitref12_Rows.calls A c l1 w6 (Kd.C_below HC.out HB6.out) hcl HBL.out hl3 _ HRF.out).mono ?_
            rintro e w7 ⟨v, ok, rfl, hb7, rfl, rfl⟩
            have HB7 := Aside0.mk (below_step HB6.out hb7)
            clear hb7 HB6
            go_wp2_with (fail)
            refine (block_Seek.calls A c l1 ⟨#[109]⟩ w7 (Kd.C_below HC.out HB7.out) hcl HBL.out hl3 _ HRD.out).mono ?_
            rintro e w8 ⟨rfl, hb8⟩
            have HB8 := Aside0.mk (below_step HB7.out hb8)
            clear hb8 HB7
            rw [show seekR (none : Option (List S68)) ⟨#[109]⟩ = -1 from rfl, show seekE (none : Option (List S68)) = 8 from rfl]
            go_wp2_with (fail)
            go_ret
            exact ⟨rfl, below_step HBC.out HB8.out⟩
          | some r =>
            have HRF := Aside0.mk hrf
            have HRD : Aside0 (readS l1 = some (r.map cv)) := ⟨by rw [read_ref l1 hl3, hrf]; rfl⟩
            clear hrf
            go_wp2_with (fail)
            refine (block_Read.calls A c l1 wr HC.out hcl HBL.out hl3 _ HRD.out).mono ?_
            rintro e w6 ⟨v, er, rfl, hb6, rfl, hL⟩
            obtain ⟨A6, c6, e6⟩ := Kd.R_slice hL
            subst e6
            have HB6 := Aside0.mk hb6
            have HL6 := Aside0.mk (Kd.R_reads' hL)
            clear hb6 hL
            go_wp2_with (fail)
            refine (incipitref12_Rows.calls A c l1 w6 (Kd.C_below HC.out HB6.out) hcl HBL.out hl3 _ HRF.out).mono ?_
            rintro e w7 ⟨v, ok, rfl, hb7, rfl, hL⟩
            obtain ⟨A7, c7, e7⟩ := Kd.R_slice hL
            subst e7
            have HL67 := Aside0.mk (Kd.C_below HL6.out.2.2 hb7)
            have hc6 : (r.map cv).length ≤ c6 := HL6.out.2.1
            have HL7 := Aside0.mk (Kd.R_reads' hL)
            have hc7 : r.length ≤ c7 := HL7.out.2.1
            have HB7 := Aside0.mk (below_step HB6.out hb7)
            clear hb7 HB6 hL HL6
            go_wp2_with (fail)
            refine (block_Seek.calls A c l1 ⟨#[109]⟩ w7 (Kd.C_below HC.out HB7.out) hcl HBL.out hl3 _ HRD.out).mono ?_
            rintro e w8 ⟨rfl, hb8⟩
            have HB8 := Aside0.mk (below_step HB7.out hb8)
            have HL68 := Aside0.mk (Kd.C_below HL67.out hb8)
            have HL78 := Aside0.mk (Kd.C_below HL7.out.2.2 hb8)
            clear hb8 HB7 HL67 HL7
            obtain ⟨sk, hsk⟩ : ∃ sk, seekR (some (r.map cv)) ⟨#[109]⟩ = sk := ⟨_, rfl⟩
            rw [hsk, show seekE (some (r.map cv)) = 0 from rfl]
            clear hsk
            obtain ⟨KS, hKS⟩ := same_ev r (by have := readS_len HRD.out hl3; rw [List.length_map] at this; omega)
            have HKS := Aside0.mk (hKS KS (Nat.le_refl _))
            clear hKS
            go_wp2_with (fail)
            have hq := (incipitlaw16_same.calls KS A6 c6 (r.map cv) A7 c7 r true w8 HL68.out hc6 HL78.out hc7 HKS.out)
            rw [List.length_map] at hq
            (with_reducible refine hq.mono ?_)
            rintro e w10 ⟨rfl, hd⟩
            have HW10 : Aside0 (Below wr.heap.size wr w10) := ⟨by obtain ⟨m1, e1⟩ := hd.out; rw [e1]; exact pw_below_drewN HB8.out m1⟩
            clear hd hq HL68 HL78
            go_wp2_with (fail)
            go_ret
            exact ⟨rfl, below_step HBC.out HW10.out⟩
end Go.Proofs.Ytoglanahjlfihaa.MBlk
namespace Go.Proofs.Ytoglanahjlfihaa.blockAny
open Go.ChangeShapes Go.WideShapes Go.ChangeAt Go.RowKit Go.Proofs.Ytoglanahjlfihaa.MBlk Go.Proofs.Ytoglanahjlfihaa.QBlk Go.Proofs.YtoglanahjlfihaaW.PrintWords Go.Proofs.YtoglanahjlfihaaW.PrintLast
open Go.ChangeMaps (open_string shut_string)
set_option linter.unusedVariables false
theorem own : ownKnob Try.prog.godebug = none := by kernel_rfl
theorem laidOut : laidOutB Try.prog = true := by kernel_rfl
set_option maxRecDepth 100000 in
theorem opens68 : Opens Try.prog 68 k68 (fun x => (x.f0.size ≤ maxLen ∧ x.f1.size ≤ maxLen)) := by
  intro H enc w n cs y h
  obtain ⟨xs, n', _, hx, hl, hlen, hg⟩ := DataW.trod_struct Try.underlying68 h
  have hlc : cs.length = 2 := hl.trans (by kernel_rfl)
  match cs, hlc with
  | [c0, c1], _ =>
    match xs, hlen with
    | [y0, y1], _ =>
      have h0 : DataW.trod enc Try.prog w 0 (fun _ => true) true n' 9 (List.take (Try.prog.cellsOf 9) (List.drop 0 [c0, c1])) = some y0 := hg 0 _ rfl
      rw [show Try.prog.cellsOf _ = 1 from (by kernel_rfl : Try.prog.cellsOf 9 = 1)] at h0
      obtain ⟨x0, K0, g0⟩ := (Opens.str (P := Try.prog) Try.underlying9) enc w n' [c0] y0 h0
      have h1 : DataW.trod enc Try.prog w 0 (fun _ => true) true n' 9 (List.take (Try.prog.cellsOf 9) (List.drop 1 [c0, c1])) = some y1 := hg 1 _ rfl
      rw [show Try.prog.cellsOf _ = 1 from (by kernel_rfl : Try.prog.cellsOf 9 = 1)] at h1
      obtain ⟨x1, K1, g1⟩ := (Opens.str (P := Try.prog) Try.underlying9) enc w n' [c1] y1 h1
      exact ⟨⟨x0, x1⟩, ⟨[c0], [c1], rfl, K0, K1⟩, g0, g1⟩
theorem u8_wf {n : Int} (h : (Lit.int .u8 n).wf = true) : 0 ≤ n ∧ n < 256 := by
  have : 0 ≤ n ∧ n ≤ 255 := by simpa [Lit.wf, IntKind.min, IntKind.max, IntKind.signed, IntKind.bits] using h
  omega
set_option maxRecDepth 100000 in
theorem lifted (os : Os) (started : os.Started) (H : Type) (enc : TypeId × Value → H) :
    ReturnsInHanded {} Try.checked os 10 .any (Rows.blockAnySpec.pre6 enc Try.prog Try.f10 Rows.blockAnyRow.domain false) (Rows.blockAnySpec.post enc Try.prog Try.f10 false true false false) := by
  refine returnsInHanded_of_change_sized (C := Try.checked) own started (by kernel_rfl) Try.func10
    (ChangeSpec.witness6 (enc := enc) (C := Try.checked) false ⟨#[], #[.slice none 0 0, .int .i64 0, .int .u8 0, .slice none 0 0, .int .i64 0], []⟩ 8 (by kernel_rfl) (by kernel_rfl) (by kernel_rfl) (by kernel_rfl)) ?_
  intro W base args ds gs before hval0 hW hcnd hsz0 _
  have hval : ∀ (j : Nat) t v, Try.f10.params[j]? = some t → args[j]? = some v → Value.okWide Try.prog W .any base t v := hval0
  have hW' := hW
  obtain ⟨p, q, hA0, hV, rfl, hfz, hnd⟩ := hW
  have hA : DataW.TrodAll enc Try.prog W 0 (fun _ => true) true Try.f10.params.toList args.toList ds p := hA0
  rw [Try.params10] at hA hval
  obtain ⟨v0, vs0, d0, ds0, p0, q0, hargs, rfl, rfl, h0, r0⟩ := trodAll_cons hA
  obtain ⟨v1, vs1, d1, ds1, p1, q1, rfl, rfl, rfl, h1, r1⟩ := trodAll_cons r0
  obtain ⟨v2, vs2, d2, ds2, p2, q2, rfl, rfl, rfl, h2, r2⟩ := trodAll_cons r1
  obtain ⟨v3, vs3, d3, ds3, p3, q3, rfl, rfl, rfl, h3, r3⟩ := trodAll_cons r2
  obtain ⟨v4, vs4, d4, ds4, p4, q4, rfl, rfl, rfl, h4, r4⟩ := trodAll_cons r3
  obtain ⟨rfl, rfl, rfl⟩ := trodAll_nil r4
  obtain rfl : args = #[v0, v1, v2, v3, v4] := by cases args; simp_all
  obtain ⟨rfl, rfl⟩ := trodVars_none hV
  obtain ⟨a0, len0, cap0, rfl⟩ := okWide_slice Try.underlying62 (hval 0 62 v0 rfl rfl)
  have k0 := h0
  have lt0 : ∀ x ∈ p0, x.block < W.heap.size := by obtain ⟨m, hm⟩ := k0; exact DataW.trod_lt m _ _ _ hm
  obtain ⟨l0, rfl, hc0, hr0, g0⟩ := param_slice (Opens.slice (P := Try.prog) (t := 62) (e := 68) (d := k68) Try.underlying62 (by kernel_rfl) (opens68)) h0
  obtain ⟨a1, rfl, rfl, rfl, w1⟩ := open_int Try.underlying3 (hval 1 3 v1 rfl rfl) h1
  obtain ⟨a2, rfl, rfl, rfl, w2⟩ := open_int Try.underlying5 (hval 2 5 v2 rfl rfl) h2
  obtain ⟨a3, len3, cap3, rfl⟩ := okWide_slice Try.underlying28 (hval 3 28 v3 rfl rfl)
  have k3 := h3
  have lt3 : ∀ x ∈ p3, x.block < W.heap.size := by obtain ⟨m, hm⟩ := k3; exact DataW.trod_lt m _ _ _ hm
  obtain ⟨l3, rfl, hc3, hr3, g3⟩ := param_slice (Opens.slice (P := Try.prog) (t := 28) (e := 5) (d := (Kd.int .u8)) Try.underlying28 (by kernel_rfl) (Opens.int (P := Try.prog) Try.underlying5)) h3
  obtain ⟨a4, rfl, rfl, rfl, w4⟩ := open_int Try.underlying3 (hval 4 3 v4 rfl rfl) h4
  clear hA0 hval0 hsz0
  refine (incipitlaw16_BlockAny.calls a0 cap0 l0 a1 a2 a3 cap3 l3 a4 W hr0 hc0 hr3 hc3 (fun c hc => u8_wf (g3.2 c hc)) (u8_wf w2)).mono fun e W' ⟨he, bel⟩ => ?_
  subst he
  exact ⟨_, rfl, _, _, _, [], _, [], hW', trodAll_mk1 (shut_bool Try.underlying4 _), (trodAll_cons_mk (Below.trod laidOut (by kernel_rfl) (of_decide_eq_true (by kernel_rfl)) k0 bel lt0) (trodAll_cons_mk (shut_int Try.underlying3 w1) (trodAll_cons_mk (shut_int Try.underlying5 w2) (trodAll_cons_mk (Below.trod laidOut (by kernel_rfl) (of_decide_eq_true (by kernel_rfl)) k3 bel lt3) (trodAll_cons_mk (shut_int Try.underlying3 w4) trodAll_mk0))))), rfl, bel.frame _, fun h => by cases h⟩
theorem over : Rows.blockAnyRow.holds Try.pinned (OpenSpec.ofChange Rows.blockAnySpec) :=
  OpenClaim.holds_of_wide 10 Try.f10 rfl rfl rfl rfl rfl rfl rfl ⟨rfl, rfl, rfl, rfl, rfl⟩ rfl rfl rfl rfl rfl (by kernel_rfl) Try.func10 (by kernel_rfl)
    (of_decide_eq_true (by kernel_rfl)) (by unfold Func.isWrapper; first | (rw [if_pos (by decide +kernel)]; kernel_rfl) | (rw [if_neg (by decide +kernel)]; exact ⟨rfl, rfl⟩))
    (fun os started H enc _ => lifted os started H enc)
theorem proved : Rows.BlockAnySaid := over
#print axioms proved
end Go.Proofs.Ytoglanahjlfihaa.blockAny
namespace Go.Proofs.Ytoglanahjlfihaa
/-- The row, under a short name, for the claim. -/
theorem blockAny_holds : Rows.BlockAnySaid := blockAny.proved
end Go.Proofs.Ytoglanahjlfihaa
