import Derived.Test.YtoglanahjlfihaaHBlk9
import Derived.Test.YtoglanahjlfihaaHBlk7
namespace Go.Proofs.Ytoglanahjlfihaa.MBlk
open Go.RowKit Go.Proofs.Ytoglanahjlfihaa.QBlk Go.Proofs.YtoglanahjlfihaaW.PrintWords Go.Proofs.YtoglanahjlfihaaW.PrintLast Go.Proofs.YtoglanahjlfihaaW.PrintMore
set_option linter.unusedVariables false
set_option linter.unusedSimpArgs false
theorem addT_bounds (s : St) (k v : ByteArray) (hk : k.size < 1000000) (hv : v.size < 1000000) : (addT s k v).b.length ≤ s.b.length + 30 + k.size + v.size ∧ (addT s k v).p.length ≤ s.p.length + 4 ∧ (addT s k v).rows = s.rows + 1 ∧ (addT s k v).last = k := by
  have hsh : s.sh k ≤ k.size := by
    unfold St.sh
    split
    · omega
    · have := (cpl_le (bytesOf s.last) (bytesOf k)).2
      rwa [bytesOf_length] at this
  have h0 := put_length10 (n := s.sh k) (by omega)
  have h1 := put_length10 (n := k.size - s.sh k) (by omega)
  have h2 := put_length10 (n := v.size) (by omega)
  refine ⟨?_, ?_, rfl, rfl⟩
  · simp only [addT, List.length_append, List.length_drop, bytesOf_length]
    omega
  · simp only [addT]
    split
    · rw [List.length_append, fix_length]; omega
    · omega
theorem R_oth {α : Type} {d : Kd α} {e base : Nat} {ok : Nat → Prop} {w w1 : World} {g : Nat} {v : Value} {l : List α} {cs : Array Value} (h : d.R e w base ok v l) (ho : Oth w w1 g) (hb : w.heap[g]? = some (.cells cs 111 (0, 0))) (ht : ∀ q, q ∈ e :: d.E → q ≠ 5 ∧ q ≠ 111) : d.R e w1 base ok v l := by
  refine Kd.R_mono (Kd.R_move (Kd.R_bound h) (fun k hk => ?_)) (fun k hk => hk.1)
  obtain ⟨_, _, _, q, hq, cells, hc⟩ := hk
  refine (ho.2 k cells q ?_ (ht q hq).1 hc).trans hc.symm
  rintro rfl
  rw [hb] at hc
  injection hc with hc
  injection hc with _ hc2
  exact (ht q hq).2 hc2.symm
theorem BldS.blk {w0 w : World} {g : Nat} {s : St} (h : BldS w0 w g s) : ∃ cs, w.heap[g]? = some (.cells cs 111 (0, 0)) := by
  obtain ⟨_, _, _, _, h, _⟩ := h
  exact ⟨_, h⟩
theorem BldS.below {w0 w w' : World} {g : Nat} {s : St} (h : BldS w0 w g s) (hb : Below w.heap.size w w') : BldS w0 w' g s := BldI.below h hb
theorem BldS.base {w0 w : World} {g : Nat} {s : St} (h : BldS w0 w g s) : Below w0.heap.size w0 w := h.2.1
def RdPost (w w' : World) (e : Ending) (res : Option (List S68)) : Prop := ∃ v er, e = .returned (.tuple #[v, .int .i64 er]) ∧ Below w.heap.size w w' ∧ (match res with | none => v = .slice none 0 0 ∧ er = 8 | some l => er = 0 ∧ Kd.R k68 68 w' w.heap.size (fun _ => True) v l)
theorem C_takeI {w : World} {A : Option Addr} {c m : Nat} {xs : List Int} (h : Kd.C (Kd.int .u8) w A xs.length xs) (hm : m ≤ xs.length) (hc : xs.length ≤ c) : (∀ W : World, (Instr.slice 28 (.slice A xs.length c) none (some (.int .i64 (m : Int))) none).run Try.prog W = .ok (.slice A m c) W) ∧ Kd.C (Kd.int .u8) w A m (xs.take m) := by
  obtain ⟨i0, hi0, _, hsz, _⟩ := info_parts info5
  refine ⟨cut_to (P := Try.prog) 28 5 .i64 Try.underlying28 hi0 A xs.length c (m : Int) (by omega) (by omega) hc, ?_⟩
  have := Kd.C_take h hm
  rwa [List.length_take, Nat.min_eq_left hm] at this
theorem i64id {n : Int} (h : -9223372036854775808 ≤ n ∧ n ≤ 9223372036854775807) : IntKind.i64.wrap n = n := (i64_w _).trans (by unfold wrap64; omega)
set_option maxHeartbeats 8000000 in
set_option maxRecDepth 100000 in
theorem block_Read.calls (A0 : Option Addr) (c0 : Nat) (l : List Int) (w : World) (hr0 : Kd.C (Kd.int .u8) w A0 l.length l) (hc0 : l.length ≤ c0) (hby : Bytes l) (hl : l.length ≤ 30000) (res : Option (List S68)) (h : readS l = res) :
    Calls Try.prog 42 #[.slice A0 l.length c0] w fun e w' => RdPost w w' e res := by
  have HR := Aside0.mk hr0
  have HBY := Aside0.mk hby
  by_cases h4 : l.length < 4
  · have h4b : ((l.length : Int) < 4) = True := eq_true (by omega)
    have h4c : (l.length < 4) = True := eq_true h4
    rw [readS, if_pos h4] at h
    subst h
    clear h4
    go_enter Try.func42, Try.ntmps42
    go_wp2_with (fail)
    go_ret2
    exact ⟨_, _, rfl, Below.refl _ _, rfl, rfl⟩
  · have h4b : ((l.length : Int) < 4) = False := eq_false (by omega)
    have h4c : (l.length < 4) = False := eq_false h4
    rw [readS, if_neg h4] at h
    have HH := Aside0.mk h
    have hn4 := cnt_lt l hby
    obtain ⟨n, hn⟩ : ∃ n, Aside0 (n = cnt l) := ⟨_, ⟨rfl⟩⟩
    rw [← hn.out] at hn4
    have hw4 : IntKind.i64.wrap ((l.length : Int) - 4) = ((l.length - 4 : Nat) : Int) := (i64id (by omega)).trans (by omega)
    obtain ⟨A1, hsl1, hC1, hle1⟩ := C_dropA hr0 (show l.length - 4 ≤ l.length by omega) hc0
    have HC1 := Aside0.mk hC1
    obtain ⟨K, hK⟩ := Get32_ev (l := l.drop (l.length - 4)) (hby.drop _) (by rw [List.length_drop]; omega)
    have HK := Aside0.mk (hK K (Nat.le_refl _))
    have hcnt : (val256 ((l.drop (l.length - 4)).take 4) : Int) = (n : Int) := by rw [hn.out]; rfl
    rw [hcnt] at HK
    have hw1 : IntKind.i64.wrap (n : Int) = n := i64id (by omega)
    have hw2 : IntKind.i64.wrap ((n : Int) + 1) = (n : Int) + 1 := i64id (by omega)
    have hw3 : IntKind.i64.wrap (4 * ((n : Int) + 1)) = 4 * ((n : Int) + 1) := i64id (by omega)
    have hw5 : IntKind.i64.wrap ((l.length : Int) - 4 * ((n : Int) + 1)) = (l.length : Int) - 4 * ((n : Int) + 1) := i64id (by omega)
    clear hr0 hby h hC1 hK hcnt h4
    go_enter Try.func42, Try.ntmps42
    go_wp2_with (fail)
    have hq := varint_Get32.calls K A1 _ _ n w HC1.out hle1 HK.out
    rw [List.length_drop] at hq
    refine hq.mono ?_
    rintro e w1 ⟨rfl, hb1⟩
    have HB1 : Aside0 (Below w.heap.size w w1) := ⟨by obtain ⟨m1, e1⟩ := hb1.out; rw [e1]; exact pw_below_drewN (Below.refl _ _) m1⟩
    clear hq hb1 HC1 hsl1 hle1 HK
    by_cases he : l.length < 4 * (n + 1)
    · have heb : ((l.length : Int) - 4 * ((n : Int) + 1) < 0) = True := eq_true (by omega)
      have hres : res = none := by have h_ := HH.out; rw [← hn.out, if_pos he] at h_; exact h_.symm
      subst hres
      clear HH
      go_wp2_with (fail)
      go_ret2
      exact ⟨_, _, rfl, HB1.out, rfl, rfl⟩
    · have heb : ((l.length : Int) - 4 * ((n : Int) + 1) < 0) = False := eq_false (by omega)
      obtain ⟨m, hm⟩ : ∃ m, Aside0 (m = l.length - 4 * (n + 1)) := ⟨_, ⟨rfl⟩⟩
      have hme : (l.length : Int) - 4 * ((n : Int) + 1) = (m : Int) := by rw [hm.out]; omega
      rw [hme] at hw5 heb
      have HH2 : Aside0 ((if (addAll ((rowsOf l).getD []) ((rowsOf l).isSome, St0)).1 = true ∧ eqB (addAll ((rowsOf l).getD []) ((rowsOf l).isSome, St0)).2.out l = true then some ((rowsOf l).getD []) else none) = res) := ⟨by have h_ := HH.out; rw [← hn.out, if_neg he] at h_; exact h_⟩
      have hml : m ≤ l.length := by rw [hm.out]; omega
      obtain ⟨hsl2, hC2⟩ := C_takeI HR.out hml hc0
      have hC2l : (l.take m).length = m := by rw [List.length_take]; omega
      have HRO : Aside0 (rdR (l.take m).length (l.take m) ⟨#[]⟩ [] = rowsOf l) := ⟨by rw [hC2l, rowsOf, ← hn.out, ← hm.out]⟩
      have HC2 := Aside0.mk hC2
      clear HH hC2 hn4
      go_wp2_with (fail)
      have hq := block_read.calls A0 c0 (l.take m) w1 (by rw [hC2l]; exact Kd.C_below HC2.out HB1.out) (by omega) (HBY.out.take m) (by omega) _ HRO.out
      rw [hC2l] at hq
      refine hq.mono ?_
      rintro e w2 ⟨v, ok, rfl, hb2, hv⟩
      have hv2 : ∃ A4 c4, v = .slice A4 ((rowsOf l).getD []).length c4 ∧ ok = (rowsOf l).isSome ∧ Kd.R k68 68 w2 w.heap.size (fun _ => True) v ((rowsOf l).getD []) := by
        cases hro : rowsOf l with
        | none =>
          rw [hro] at hv
          obtain ⟨rfl, rfl⟩ := hv
          exact ⟨none, 0, rfl, rfl, Kd.R_nil _ _ _ _ _⟩
        | some L =>
          rw [hro] at hv
          obtain ⟨rfl, hR⟩ := hv
          obtain ⟨A4, c4, e4⟩ := Kd.R_slice hR
          exact ⟨A4, c4, e4, rfl, Kd.R_lower hR HB1.out.size⟩
      obtain ⟨A4, c4, rfl, rfl, hRL⟩ := hv2
      obtain ⟨hfl, hfit⟩ := rowsOf_fit hl
      have HB2 := Aside0.mk (below_step HB1.out hb2)
      have HRL := Aside0.mk hRL
      clear hv hRL hq hb2 HC2 HRO HB1
      generalize (rowsOf l).isSome = ok0 at HH2 ⊢
      generalize (rowsOf l).getD [] = L at *
      go_wp2_with (fail)
      refine (block_NewS.calls w w2 HB2.out).mono ?_
      rintro e w3 ⟨g, rfl, hI, hb3, hg⟩
      have HI := Aside0.mk hI
      have HRL3 := Aside0.mk (Kd.R_below HRL.out hb3)
      clear HB2 HRL hI hb3 hg
      obtain ⟨fin, hfin⟩ : ∃ fin, Aside0 (addAll L (ok0, St0) = fin) := ⟨_, ⟨rfl⟩⟩
      rw [hfin.out] at HH2
      go_wp2_with (fail)
      go_loopg [7, 39] L.length (fun kx s7 s39 wr => ∃ (i : Nat) (okb : Bool) (s : St), s7 = .bool okb ∧ s39 = .int .i64 i ∧ i + kx = L.length ∧ Aside0 (addAll (L.drop i) (okb, s) = fin) ∧ s.rows ≤ i ∧ s.b.length ≤ 60030 * i ∧ s.p.length ≤ 4 * i ∧ s.last.size ≤ 30000 ∧ Aside0 (BldS w wr g s) ∧ Aside0 (Kd.R k68 68 wr w.heap.size (fun _ => True) (.slice A4 L.length c4) L))
      case atStart => exact ⟨0, ok0, St0, rfl, rfl, by omega, hfin, Nat.le_refl _, Nat.le_refl _, Nat.le_refl _, by decide, HI, HRL3⟩
      case round =>
        clear HI HRL3 hfin
        obtain ⟨i, okb, s, rfl, rfl, hi, HA, hs1, hs2, hs3, hs4, HI, HRL⟩ := hrel
        cases gk with
        | zero =>
          have hit : ((i : Int) < (L.length : Int)) = False := eq_false (by omega)
          have hfe : fin = (okb, s) := by
            have h_ := HA.out
            rw [List.drop_eq_nil_of_le (by omega), addAll] at h_
            exact h_.symm
          subst hfe
          clear HA
          simp only at HH2
          cases okb with
          | false =>
            have hres : res = none := by have h_ := HH2.out; rw [if_neg (by simp)] at h_; exact h_.symm
            subst hres
            go_wp2_with (fail)
            go_ret2
            exact ⟨_, _, rfl, HI.out.base, rfl, rfl⟩
          | true =>
            go_wp2_with (fail)
            have hout : s.b.length < 4294967296 ∧ s.p.length < 4294967296 := by omega
            refine (block_BytesS.calls w wr g s HI.out hout.1 hout.2).mono ?_
            rintro e w4 ⟨v, rfl, hv, hI4, hb4⟩
            obtain ⟨A5, c5, e5⟩ := Kd.R_slice hv
            subst e5
            have HI4 := Aside0.mk hI4
            have HRL4 := Aside0.mk (Kd.R_below HRL.out hb4)
            have HV := Aside0.mk hv
            clear HI HRL hv hI4 hb4
            obtain ⟨rb, hrb⟩ : ∃ rb, Aside0 (rb = eqB s.out l) := ⟨_, ⟨rfl⟩⟩
            rw [← hrb.out] at HH2
            go_wp2_with (fail)
            refine (bytes_Equal.calls A5 c5 s.out A0 c0 l rb w4 (Kd.R_reads' HV.out).2.2 (Kd.R_reads' HV.out).2.1 (Kd.C_below HR.out HI4.out.base) hc0 (by rw [hrb.out]; rfl)).mono ?_
            rintro e w5 ⟨rfl, hd5⟩
            have hb5 : Below w4.heap.size w4 w5 := by obtain ⟨m1, e1⟩ := hd5.out; rw [e1]; exact pw_below_drewN (Below.refl _ _) m1
            have HB5 := Aside0.mk (below_step HI4.out.base hb5)
            have HRL5 := Aside0.mk (Kd.R_below HRL4.out hb5)
            clear hd5 hb5 HI4 HRL4 HV hrb
            cases rb with
            | false =>
              have hres : res = none := by have h_ := HH2.out; rw [if_neg (by simp)] at h_; exact h_.symm
              subst hres
              go_wp2_with (fail)
              go_ret2
              exact ⟨_, _, rfl, HB5.out, rfl, rfl⟩
            | true =>
              have hres : res = some L := by have h_ := HH2.out; rw [if_pos ⟨trivial, rfl⟩] at h_; exact h_.symm
              subst hres
              go_wp2_with (fail)
              go_ret2
              exact ⟨_, _, rfl, HB5.out, rfl, HRL5.out⟩
        | succ kk =>
          have hit : ((i : Int) < (L.length : Int)) = True := eq_true (by omega)
          have hi0 : ((0 : Int) ≤ (i : Int)) = True := eq_true (by omega)
          have hi1 : (i < L.length) = True := eq_true (by omega)
          obtain ⟨ad, rfl, g0, g1⟩ := at_T68 (Kd.R_reads' HRL.out).2.2 (i : Int) (by omega) (by omega)
          rw [Int.toNat_natCast] at g0
          simp only [Int.toNat_natCast] at g1
          have hw64 : IntKind.i64.wrap ((i : Int) + 1) = ((i + 1 : Nat) : Int) := i64id (by omega)
          have hdi : L.drop i = rd_T68 L (i : Int) :: L.drop (i + 1) := by
            unfold rd_T68
            rw [Int.toNat_natCast, List.drop_eq_getElem_cons (by omega), List.getD_eq_getElem?_getD, List.getElem?_eq_getElem (by omega)]; rfl
          have hfi : Fit (rd_T68 L (i : Int)) := hfit _ (List.mem_of_mem_drop (hdi ▸ List.mem_cons_self))
          have h_ := HA.out
          rw [hdi, addAll] at h_
          simp only at h_
          clear hdi HA
          generalize rd_T68 L (i : Int) = y at h_ g0 g1 hfi
          have HA := Aside0.mk h_
          clear h_
          cases okb with
          | false =>
            go_wp2_with (fail)
            go_roundg kk
            case measure => omega
            case rel => exact ⟨i + 1, false, s, rfl, rfl, by omega, HA, by omega, by omega, by omega, hs4, ⟨HI.out.below (below_alloc (Below.refl _ _) _)⟩, ⟨Kd.R_alloc HRL.out _⟩⟩
          | true =>
            go_wp2_with (fail)
            have HI2 : Aside0 (BldS w (wr.alloc (.cells #[.string y.f0, .string y.f1] 68)) g s) := ⟨HI.out.below (below_alloc (Below.refl _ _) _)⟩
            have HRL2 := Aside0.mk (Kd.R_alloc HRL.out (.cells #[.string y.f0, .string y.f1] 68))
            have hfy := hfi.1
            have hfy2 := hfi.2
            have hbd := addT_bounds s y.f0 y.f1 (by omega) (by omega)
            refine (block_Add.calls w _ g s y.f0 y.f1 HI2.out (by omega) (by omega) (by omega) (by omega) (by omega) (by omega)).mono ?_
            rintro e w4 ⟨rfl, hI4, hO4⟩
            obtain ⟨cs, hcs⟩ := HI2.out.blk
            have HRL4 := Aside0.mk (R_oth HRL2.out hO4 hcs (by decide))
            have HI4 := Aside0.mk hI4
            obtain ⟨s2, hs2e⟩ : ∃ s2, Aside0 (s2 = if addB s y.f0 then addT s y.f0 y.f1 else s) := ⟨_, ⟨rfl⟩⟩
            have hs2b : s2.rows ≤ s.rows + 1 ∧ s2.b.length ≤ s.b.length + 60030 ∧ s2.p.length ≤ s.p.length + 4 ∧ s2.last.size ≤ 30000 := by
              rw [hs2e.out]
              split
              · rw [hbd.2.2.1, hbd.2.2.2]; omega
              · omega
            rw [← hs2e.out] at HI4
            have HA2 : Aside0 (addAll (L.drop (i + 1)) (addB s y.f0, s2) = fin) := ⟨by rw [hs2e.out]; exact HA.out⟩
            generalize addB s y.f0 = okn at HA2 ⊢
            clear hI4 hO4 hcs HI HRL HI2 HRL2 HA hs2e hbd g0 g1
            go_wp2_with (fail)
            go_roundg kk
            case measure => omega
            case rel => exact ⟨i + 1, okn, s2, rfl, rfl, by omega, HA2, by omega, by omega, by omega, hs2b.2.2.2, HI4, HRL4⟩
end Go.Proofs.Ytoglanahjlfihaa.MBlk
