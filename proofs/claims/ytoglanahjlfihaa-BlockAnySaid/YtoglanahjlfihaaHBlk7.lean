import Derived.Test.YtoglanahjlfihaaHBlk6
import Derived.Test.YtoglanahjlfihaaHBlk2
import Derived.Outline
import Derived.Deep.QuietTactic
import Derived.BigQuiet
import Derived.Deep.LoopGhost
import Derived.BigRegion
import Derived.Deep.RegionLaw
namespace Go.Proofs.Ytoglanahjlfihaa.MBlk
open Go.RowKit Go.Proofs.Ytoglanahjlfihaa.QBlk Go.Proofs.YtoglanahjlfihaaW.PrintWords Go.Proofs.YtoglanahjlfihaaW.PrintLast Go.Proofs.YtoglanahjlfihaaW.PrintMore
set_option linter.unusedVariables false
set_option linter.unusedSimpArgs false
theorem info68 : (Try.prog.info? 68).map (fun i => (i.zero, i.size, i.bytes)) = some (some (.agg #[.string ⟨#[]⟩, .string ⟨#[]⟩]), 2, 32) := by kernel_rfl
theorem C_dropA {w : World} {A : Option Addr} {c m : Nat} {xs : List Int} (h : Kd.C (Kd.int .u8) w A xs.length xs) (hm : m ≤ xs.length) (hc : xs.length ≤ c) : ∃ A', (∀ W : World, (Instr.slice 28 (.slice A xs.length c) (some (.int .i64 (m : Int))) none none).run Try.prog W = .ok (.slice A' (xs.drop m).length (c - m)) W) ∧ Kd.C (Kd.int .u8) w A' (xs.drop m).length (xs.drop m) ∧ (xs.drop m).length ≤ c - m := by
  obtain ⟨i0, hi0, _, hsz, _⟩ := info_parts info5
  refine ⟨_, fun W => ?_, Kd.C_drop h hm hc, by rw [List.length_drop]; omega⟩
  have := cut_from (P := Try.prog) 28 5 .i64 Try.underlying28 hi0 1 hsz A xs.length c (m : Int) (by omega) (by omega) W
  rw [List.length_drop]
  exact this
theorem C_takeA {w : World} {A : Option Addr} {c m : Nat} {xs : List Int} (h : Kd.C (Kd.int .u8) w A xs.length xs) (hm : m ≤ xs.length) (hc : xs.length ≤ c) : (∀ W : World, (Instr.slice 28 (.slice A xs.length c) none (some (.int .u64 (m : Int))) none).run Try.prog W = .ok (.slice A m c) W) ∧ Kd.C (Kd.int .u8) w A m (xs.take m) := by
  obtain ⟨i0, hi0, _, hsz, _⟩ := info_parts info5
  refine ⟨cut_to (P := Try.prog) 28 5 .u64 Try.underlying28 hi0 A xs.length c (m : Int) (by omega) (by omega) hc, ?_⟩
  have := Kd.C_take h hm
  rwa [List.length_take, Nat.min_eq_left hm] at this
theorem C_midA {w : World} {A : Option Addr} {c a b : Nat} {xs : List Int} (h : Kd.C (Kd.int .u8) w A xs.length xs) (hm : a + b ≤ xs.length) (hc : xs.length ≤ c) : ∃ A', (∀ W : World, (Instr.slice 28 (.slice A xs.length c) (some (.int .u64 (a : Int))) (some (.int .u64 ((a : Int) + b))) none).run Try.prog W = .ok (.slice A' b (c - a)) W) ∧ Kd.C (Kd.int .u8) w A' b ((xs.take (a + b)).drop a) := by
  obtain ⟨i0, hi0, _, hsz, _⟩ := info_parts info5
  refine ⟨if c = a then A else A.map (·.add (a * 1)), fun W => ?_, ?_⟩
  · have := cut_mid (P := Try.prog) 28 5 .u64 .u64 Try.underlying28 hi0 1 hsz A xs.length c (a : Int) ((a : Int) + b) (by omega) (by omega) (by omega) hc W
    rw [show (((a : Int) + b).toNat - (a : Int).toNat) = b by omega] at this
    exact this
  · have := Kd.C_mid (lo := a) (hi := a + b) h (by omega) hm hc
    rwa [show ((xs.take (a + b)).drop a).length = b by rw [List.length_drop, List.length_take]; omega] at this
theorem C_dropB {w : World} {A : Option Addr} {c a b : Nat} {xs : List Int} (h : Kd.C (Kd.int .u8) w A xs.length xs) (hm : a + b ≤ xs.length) (hc : xs.length ≤ c) : ∃ A', (∀ W : World, (Instr.slice 28 (.slice A xs.length c) (some (.int .u64 ((a : Int) + b))) none none).run Try.prog W = .ok (.slice A' (xs.drop (a + b)).length (c - (a + b))) W) ∧ Kd.C (Kd.int .u8) w A' (xs.drop (a + b)).length (xs.drop (a + b)) ∧ (xs.drop (a + b)).length ≤ c - (a + b) := by
  obtain ⟨i0, hi0, _, hsz, _⟩ := info_parts info5
  refine ⟨_, fun W => ?_, Kd.C_drop h hm hc, by rw [List.length_drop]; omega⟩
  have := cut_from (P := Try.prog) 28 5 .u64 Try.underlying28 hi0 1 hsz A xs.length c ((a : Int) + b) (by omega) (by omega) W
  rw [show ((a : Int) + b).toNat = a + b by omega] at this
  rw [List.length_drop]
  exact this
theorem strOfNums_size (l : List Int) : (strOfNums l).size = l.length := by simp [strOfNums, ByteArray.size]
theorem set_arr {xs : List Int} {j k1 : Nat} {x : Int} (h : xs.length = j) : (((xs ++ List.replicate (k1 + 1) 0).map (Value.int .u64)).toArray).setIfInBounds j (Value.int .u64 x) = (((xs ++ [x]) ++ List.replicate k1 0).map (Value.int .u64)).toArray := by
  subst h
  rw [List.setIfInBounds_toArray]
  congr 1
  rw [List.map_append, List.map_append, List.map_append, List.replicate_succ, List.map_cons, List.set_append_right _ _ (by simp)]
  simp
def ReadPost (w w' : World) (e : Ending) (res : Option (List S68)) : Prop := ∃ v ok, e = .returned (.tuple #[v, .bool ok]) ∧ Below w.heap.size w w' ∧ (match res with | none => v = .slice none 0 0 ∧ ok = false | some l => ok = true ∧ Kd.R k68 68 w' w.heap.size (fun _ => True) v l)
set_option maxHeartbeats 8000000 in
set_option maxRecDepth 100000 in
theorem block_read.calls (A0 : Option Addr) (c0 : Nat) (l0 : List Int) (w : World) (hr0 : Kd.C (Kd.int .u8) w A0 l0.length l0) (hc0 : l0.length ≤ c0) (hby : Bytes l0) (hl : l0.length ≤ 30000) (res : Option (List S68)) (h : rdR l0.length l0 ⟨#[]⟩ [] = res) :
    Calls Try.prog 69 #[.slice A0 l0.length c0] w fun e w' => ReadPost w w' e res := by
  have HR := Aside0.mk hr0
  have HH := Aside0.mk h
  have HBY := Aside0.mk hby
  clear hr0 h hby
  go_enter Try.func69, Try.ntmps69
  go_wp2_with (fail)
  go_loopg [0, 4, 5] l0.length (fun kx s0 s4 s5 wr => ∃ (b : List Int) (A : Option Addr) (c : Nat) (last : ByteArray) (acc : List S68) (A4 : Option Addr) (c4 : Nat), s0 = .slice A b.length c ∧ s4 = .slice A4 acc.length c4 ∧ s5 = .string last ∧ b.length ≤ kx ∧ b.length + last.size ≤ 30000 ∧ acc.length + b.length ≤ 30000 ∧ b.length ≤ c ∧ Aside0 (Bytes b) ∧ Aside0 (Kd.C (Kd.int .u8) w A b.length b) ∧ Aside0 (rdR kx b last acc = res) ∧ Aside0 (Kd.R k68 68 wr w.heap.size (fun _ => True) (.slice A4 acc.length c4) acc) ∧ Aside0 (Below w.heap.size w wr))
  case atStart => exact ⟨l0, A0, c0, ⟨#[]⟩, [], none, 0, rfl, rfl, rfl, Nat.le_refl _, (by show l0.length + 0 ≤ 30000; omega), (by show 0 + l0.length ≤ 30000; omega), hc0, HBY, HR, HH, ⟨Kd.R_nil _ _ _ _ _⟩, ⟨Below.refl _ _⟩⟩
  case round =>
    (try clear HH)
    (try clear HR)
    (try clear HBY)
    obtain ⟨b, A, c, last, acc, A4, c4, rfl, rfl, rfl, hk, hbl, hal, hbc, HBY, HC, HX, HO, HB⟩ := hrel
    by_cases hb : b = []
    · subst hb
      have hb0 : (0 < ([] : List Int).length) = False := eq_false (by simp)
      have hres : res = some acc := by
        have h_ := HX.out
        cases gk with
        | zero => exact h_.symm
        | succ kk => rw [rdR, if_pos rfl] at h_; exact h_.symm
      clear HX
      subst hres
      go_wp2_with (fail)
      go_ret2
      exact ⟨_, _, rfl, HB.out, rfl, HO.out⟩
    · cases gk with
      | zero => exact absurd (List.eq_nil_of_length_eq_zero (by omega)) hb
      | succ kk =>
        have hb0 : (0 < b.length) = True := eq_true (by cases b with | nil => exact absurd rfl hb | cons _ _ => simp)
        rw [rdR, if_neg hb] at HX
        go_wp2_with (fail)
        obtain ⟨gN, hgN⟩ : ∃ gN, Aside0 (gN = wr.heap.size) := ⟨_, ⟨rfl⟩⟩
        have HN : Aside0 ((wr.alloc (.cells #[.int .u64 0, .int .u64 0, .int .u64 0] 121)).heap[gN]? = some (.cells ((([] : List Int) ++ List.replicate 3 0).map (Value.int .u64)).toArray 121 (0, 0))) := ⟨alloc_new_ _ _ _ hgN.out⟩
        have HO1 : Aside0 (Kd.R k68 68 (wr.alloc (.cells #[.int .u64 0, .int .u64 0, .int .u64 0] 121)) w.heap.size (fun _ => True) (.slice A4 acc.length c4) acc) := ⟨Kd.R_alloc HO.out _⟩
        have HB1 : Aside0 (Below w.heap.size w (wr.alloc (.cells #[.int .u64 0, .int .u64 0, .int .u64 0] 121))) := ⟨below_alloc HB.out _⟩
        have hgw : w.heap.size ≤ gN := by rw [hgN.out]; exact HB.out.size
        rw [← hgN.out]
        clear hb0 hgN HO HB
        go_loopg [0, 13] 3 (fun kx s0 s13 wq => ∃ (j : Nat) (xs bj : List Int) (Aj : Option Addr) (cj : Nat), s0 = .slice Aj bj.length cj ∧ s13 = .int .i64 j ∧ j + kx = 3 ∧ xs.length = j ∧ bj.length ≤ cj ∧ bj.length ≤ b.length ∧ (j = 0 ∨ bj.length < b.length) ∧ (∀ x ∈ xs, 0 ≤ x ∧ x ≤ 30000) ∧ Aside0 (rdN kx bj last.size xs = rdN 3 b last.size []) ∧ Aside0 (Bytes bj) ∧ Aside0 (Kd.C (Kd.int .u8) w Aj bj.length bj) ∧ Aside0 (wq.heap[gN]? = some (.cells ((xs ++ List.replicate kx 0).map (Value.int .u64)).toArray 121 (0, 0))) ∧ Aside0 (Kd.R k68 68 wq w.heap.size (fun _ => True) (.slice A4 acc.length c4) acc) ∧ Aside0 (Below w.heap.size w wq))
        case atStart => exact ⟨0, [], b, A, c, rfl, rfl, rfl, rfl, hbc, Nat.le_refl _, .inl rfl, (fun x hx => absurd hx (by simp)), ⟨rfl⟩, HBY, HC, HN, HO1, HB1⟩
        case round =>
          clear HBY HC HN HO1 HB1
          obtain ⟨j, xs, bj, Aj, cj, rfl, rfl, hjk, hxl, hbcj, hbjl, hj0, hxs, HRN, HBY, HC, HN, HO, HB⟩ := hrel
          cases gk with
          | zero =>
            have hjt : ((j : Int) < 3) = False := eq_false (by omega)
            obtain ⟨x0, x1, x2, rfl⟩ : ∃ x0 x1 x2, xs = [x0, x1, x2] := by
              match xs, hxl with
              | [a, b, c], _ => exact ⟨a, b, c, rfl⟩
              | [], h => simp at h; omega
              | [_], h => simp at h; omega
              | [_, _], h => simp at h; omega
              | _ :: _ :: _ :: _ :: _, h => simp at h; omega
            have hR := HRN.out
            rw [rdN] at hR
            have hX := HX.out
            rw [← hR] at hX
            simp only [Option.bind_some, List.getD_cons_zero, List.getD_cons_succ] at hX
            have HX := Aside0.mk hX
            clear hR hX HRN
            obtain ⟨hx0, hx0'⟩ := hxs x0 (by simp)
            obtain ⟨hx1, hx1'⟩ := hxs x1 (by simp)
            obtain ⟨hx2, hx2'⟩ := hxs x2 (by simp)
            have hn0 : wr.cell? ⟨gN, 0, none⟩ = some (.int .u64 x0) := (blk_cell HN.out 0).trans rfl
            have hn1 : wr.cell? ⟨gN, 1, none⟩ = some (.int .u64 x1) := (blk_cell HN.out 1).trans rfl
            have hn2 : wr.cell? ⟨gN, 2, none⟩ = some (.int .u64 x2) := (blk_cell HN.out 2).trans rfl
            have hwl : IntKind.u64.wrap (last.size : Int) = last.size := u64_id (by omega) (by omega)
            have hwb : IntKind.u64.wrap (bj.length : Int) = bj.length := u64_id (by omega) (by omega)
            clear hxs hxl
            by_cases c0 : x0 > last.size
            · have c0b : ((last.size : Int) < x0) = True := eq_true c0
              have hres : res = none := by have h_ := HX.out; rw [if_pos c0] at h_; exact h_.symm
              subst hres
              clear HX
              go_wp2_with (fail)
              go_ret2
              exact ⟨_, _, rfl, HB.out, rfl, rfl⟩
            · have c0b : ((last.size : Int) < x0) = False := eq_false c0
              by_cases c1 : x1 > bj.length
              · have c1b : ((bj.length : Int) < x1) = True := eq_true c1
                have hres : res = none := by have h_ := HX.out; rw [if_neg c0, if_pos c1] at h_; exact h_.symm
                subst hres
                clear HX
                go_wp2_with (fail)
                go_ret2
                exact ⟨_, _, rfl, HB.out, rfl, rfl⟩
              · have c1b : ((bj.length : Int) < x1) = False := eq_false c1
                have hws : IntKind.u64.wrap ((bj.length : Int) - x1) = (bj.length : Int) - x1 := u64_id (by omega) (by omega)
                by_cases c2 : x2 > (bj.length : Int) - x1
                · have c2b : ((bj.length : Int) - x1 < x2) = True := eq_true c2
                  have hres : res = none := by have h_ := HX.out; rw [if_neg c0, if_neg c1, if_pos c2] at h_; exact h_.symm
                  subst hres
                  clear HX
                  go_wp2_with (fail)
                  go_ret2
                  exact ⟨_, _, rfl, HB.out, rfl, rfl⟩
                · have c2b : ((bj.length : Int) - x1 < x2) = False := eq_false c2
                  obtain ⟨n0, rfl⟩ := Int.eq_ofNat_of_zero_le hx0
                  obtain ⟨n1, rfl⟩ := Int.eq_ofNat_of_zero_le hx1
                  obtain ⟨n2, rfl⟩ := Int.eq_ofNat_of_zero_le hx2
                  have HX2 : Aside0 _ := ⟨by have h_ := HX.out; rw [if_neg c0, if_neg c1, if_neg c2] at h_; simp only [Int.toNat_natCast] at h_; exact h_⟩
                  clear HX
                  have hCr := Kd.C_below HC.out HB.out
                  have hm12 : n1 + n2 ≤ bj.length := by omega
                  obtain ⟨hsl1, hC1⟩ := C_takeA hCr (show n1 ≤ bj.length by omega) hbcj
                  obtain ⟨A2, hsl2, hC2⟩ := C_midA hCr hm12 hbcj
                  obtain ⟨A3, hsl3, hC3, hle3⟩ := C_dropB HC.out hm12 hbcj
                  obtain ⟨k0, hk0⟩ : ∃ k0, Aside0 (k0 = last.extract 0 n0) := ⟨_, ⟨rfl⟩⟩
                  obtain ⟨k1, hk1⟩ : ∃ k1, Aside0 (k1 = strOfNums (bj.take n1)) := ⟨_, ⟨rfl⟩⟩
                  obtain ⟨v1, hv1⟩ : ∃ v1, Aside0 (v1 = strOfNums ((bj.take (n1 + n2)).drop n1)) := ⟨_, ⟨rfl⟩⟩
                  have hcv0 : ∀ W, (Instr.slice 9 (.string last) none (some (.int .u64 (n0 : Int))) none).run Try.prog W = .ok (.string k0) W := fun W => by rw [hk0.out]; simpa using run_slice_string_h W 9 last Try.underlying9 .u64 (n0 : Int) (by omega) (by omega)
                  have hcv1 : (convert 28 9 (.slice Aj n1 cj)).run Try.prog wr.drew = .ok (.string k1) wr.drew := by rw [hk1.out]; exact Kd.C_string Try.underlying28 Try.underlying5 Try.underlying9 (Kd.C_drew hC1)
                  have hcv2 : (convert 28 9 (.slice A2 n2 (cj - n1))).run Try.prog wr.drew = .ok (.string v1) wr.drew := by rw [hv1.out]; exact Kd.C_string Try.underlying28 Try.underlying5 Try.underlying9 (Kd.C_drew hC2)
                  have hw12 : IntKind.u64.wrap ((n1 : Int) + n2) = (n1 : Int) + n2 := u64_id (by omega) (by omega)
                  have hks : k0.size + k1.size ≤ 60000 := by rw [hk0.out, hk1.out, ByteArray.size_extract, strOfNums_size, List.length_take]; omega
                  have hks2 : Aside0 (k0.size = n0 ∧ k1.size = n1) := ⟨by rw [hk0.out, hk1.out, ByteArray.size_extract, strOfNums_size, List.length_take]; omega⟩
                  have hsum : (9223372036854775807 < k0.size + k1.size) = False := eq_false (by omega)
                  rw [← hk0.out, ← hk1.out, ← hv1.out] at HX2
                  clear hks
                  have HC3 := Aside0.mk hC3
                  clear hCr hC1 hC2 hC3
                  go_wp2_with (fail)
                  go_region
                  go_wp2_with (first | ((with_reducible refine gate_builtin (b := .append) (xs := #[.tmp 75, .tmp 88]) rfl ?_); at_builtin; refine Kd.R_append k68 (w0 := w) (W := wr.drew) w.heap.size rfl (.tmp 75) (.tmp 88) 62 68 (.agg #[.string ⟨#[]⟩, .string ⟨#[]⟩]) 32 rfl Try.underlying62 info68 rfl (by decide) (by omega) (.slice A4 acc.length c4) acc ⟨k0 ++ k1, v1⟩ [.string (k0 ++ k1), .string v1] (fun _ => True) (fun _ => False) rfl rfl ?aP (fun k hk => hk.elim) ?aF ?aO ?aB ?aS ?aL ?_; (case aP => exact k68_mkM _ _ _ _); (case aF => exact (fun _ _ => trivial)); (case aO => exact Kd.R_drew HO.out); (case aB => exact below_drew1 HB.out); (case aS => exact below_size (below_drew1 HB.out)); (case aL => omega); intro v3 w3 ho hb3 hg3 hat3; obtain ⟨A5, c5, e5⟩ := Kd.R_slice ho; subst e5; have HO3 := Aside0.mk ho; have HB3 := Aside0.mk hb3; have HN3 := Aside0.mk ((hg3.block gN (blk_lt HN.out) (Kd.R_ne (Kd.R_drew HO.out) (blk_drew HN.out) (by decide))).trans (blk_drew HN.out)); have hn13 : w3.cell? ⟨gN, 1, none⟩ = some (.int .u64 n1) := (blk_cell HN3.out 1).trans rfl; have hn23 : w3.cell? ⟨gN, 2, none⟩ = some (.int .u64 n2) := (blk_cell HN3.out 2).trans rfl; clear ho hb3 hg3 hat3))
                  go_roundg kk
                  case measure => omega
                  case rel => exact ⟨bj.drop (n1 + n2), A3, cj - (n1 + n2), k0 ++ k1, acc ++ [⟨k0 ++ k1, v1⟩], A5, c5, by rw [List.length_drop], by rw [List.length_append, List.length_singleton], rfl, by rw [List.length_drop]; omega, by rw [List.length_drop, ByteArray.size_append]; have := hks2.out; omega, by rw [List.length_drop, List.length_append, List.length_singleton]; omega, hle3, ⟨HBY.out.drop _⟩, HC3, HX2, HO3, HB3⟩
          | succ k1 =>
            have hjt : ((j : Int) < 3) = True := eq_true (by omega)
            obtain ⟨K, hK⟩ := Get_ev HBY.out
            obtain ⟨x, n, hg⟩ : ∃ x n, get bj = (x, n) := ⟨_, _, rfl⟩
            have hgf := get_facts bj
            rw [hg] at hgf
            obtain ⟨hx0, hn0, hn1⟩ := hgf
            simp only at hx0 hn0 hn1
            have HK := Aside0.mk (hK K (Nat.le_refl _))
            rw [hg] at HK
            have Hg := Aside0.mk hg
            clear hK hg
            go_wp2_with (fail)
            refine (varint_Get.calls K Aj cj bj x n _ (Kd.C_below HC.out HB.out) hbcj HK.out).mono ?_
            rintro e w2 ⟨rfl, hb2⟩
            have HB2 := Aside0.mk (below_step HB.out hb2)
            have HO2 := Aside0.mk (Kd.R_below HO.out hb2)
            have HN2 := Aside0.mk ((hb2.block gN (blk_lt HN.out)).trans HN.out)
            clear hb2 HB HO HN HK
            by_cases c0 : n = 0
            · subst c0
              have hres : res = none := by
                have h_ := HX.out
                rw [← HRN.out, rdN] at h_
                simp only [rd1, Hg.out, if_pos, Option.bind_none] at h_
                exact h_.symm
              subst hres
              clear HX HRN
              go_wp2_with (fail)
              go_ret2
              exact ⟨_, _, rfl, HB2.out, rfl, rfl⟩
            · have c0b : (n == 0) = false := beq_eq_false_iff_ne.mpr c0
              have hw1 : IntKind.i64.wrap ((bj.length : Int) + last.size) = (bj.length : Int) + last.size := (i64_w _).trans (by unfold wrap64; omega)
              have hw2 : IntKind.u64.wrap ((bj.length : Int) + last.size) = (bj.length : Int) + last.size := u64_id (by omega) (by omega)
              by_cases c1 : x > (bj.length : Int) + last.size
              · have c1b : ((bj.length : Int) + last.size < x) = True := eq_true c1
                have hres : res = none := by
                  have h_ := HX.out
                  rw [← HRN.out, rdN] at h_
                  simp only [rd1, Hg.out, if_neg c0, if_pos c1, Option.bind_none] at h_
                  exact h_.symm
                subst hres
                clear HX HRN
                go_wp2_with (fail)
                go_ret2
                exact ⟨_, _, rfl, HB2.out, rfl, rfl⟩
              · have c1b : ((bj.length : Int) + last.size < x) = False := eq_false c1
                obtain ⟨m, rfl⟩ := Int.eq_ofNat_of_zero_le hn0
                have hm : m ≤ bj.length := by omega
                have hm0 : 0 < m := by omega
                have HRN2 : Aside0 (rdN k1 (bj.drop m) last.size (xs ++ [x]) = rdN 3 b last.size []) := ⟨by
                  have h_ := HRN.out
                  rw [rdN] at h_
                  simp only [rd1, Hg.out, if_neg c0, if_neg c1, Option.bind_some, Int.toNat_natCast] at h_
                  exact h_⟩
                obtain ⟨A', hsl, hC', hle'⟩ := C_dropA HC.out hm hbcj
                have HC' := Aside0.mk hC'
                have hj0 : ((0 : Int) ≤ (j : Int)) = True := eq_true (by omega)
                have hj1 : (j < 3) = True := eq_true (by omega)
                obtain ⟨ov, hov⟩ : ∃ ov, w2.cell? ⟨gN, j, none⟩ = some ov := by
                  have h_ := blk_cell HN2.out j
                  rw [List.getElem?_toArray, List.getElem?_map, List.getElem?_append_right (by omega), hxl, Nat.sub_self] at h_
                  exact ⟨_, h_⟩
                have hfz := blk_frozen HN2.out j
                clear hC' HC HRN
                go_wp2_with (fail)
                go_region
                have hwj : IntKind.i64.wrap ((j : Int) + 1) = ((j + 1 : Nat) : Int) := (i64_w _).trans (by unfold wrap64; omega)
                have HB3 := Aside0.mk (below_set (j := j) (v := Value.int .u64 x) (below_drew1 HB2.out) hgw)
                have HN3 := Aside0.mk (blk_set (blk_drew HN2.out) j (Value.int .u64 x))
                have HO3 := Aside0.mk (Kd.R_set (Kd.R_drew HO2.out) (blk_drew HN2.out) (by decide) j (Value.int .u64 x))
                clear HB2 HN2 HO2 hov hfz HX
                go_wp2_with (fail)
                go_roundg k1
                case measure => omega
                case rel => exact ⟨j + 1, xs ++ [x], bj.drop m, A', cj - m, by rw [List.length_drop], rfl, by omega, by simp [hxl], hle', by rw [List.length_drop]; omega, .inr (by rw [List.length_drop]; omega), (fun y hy => by rcases List.mem_append.1 hy with hy | hy; exact hxs y hy; rw [List.mem_singleton.1 hy]; omega), HRN2, ⟨HBY.out.drop m⟩, HC', ⟨by have h_ := HN3.out; rw [set_arr hxl] at h_; exact h_⟩, HO3, HB3⟩
end Go.Proofs.Ytoglanahjlfihaa.MBlk
