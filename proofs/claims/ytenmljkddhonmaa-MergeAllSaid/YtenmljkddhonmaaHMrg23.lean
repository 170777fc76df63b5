import Derived.Test.YtenmljkddhonmaaHMrg17
import Derived.Test.YtenmljkddhonmaaHMrg18
import Derived.Test.YtenmljkddhonmaaHMrg22
import Derived.Laws.EntriesVeiled
namespace Go.Proofs.Ytenmljkddhonmaa.MMrg
open Go.RowKit Go.Proofs.Ytenmljkddhonmaa.QMrg Go.Proofs.YtenmljkddhonmaaW.PrintWords Go.Proofs.YtenmljkddhonmaaW.PrintLast Go.Proofs.YtenmljkddhonmaaW.PrintMore
set_option linter.unusedVariables false
set_option linter.unusedSimpArgs false
theorem rows_at {w : World} {A : Option Addr} {LL : List (List S28)} (h : Kd.C (Kd.slice 28 k28) w A LL.length LL) {k : Nat} (hk : k < LL.length) : ∃ ad A2 c2, A = some ad ∧ w.cell? (ad.add k) = some (.slice A2 (LL.getD k []).length c2) ∧ (LL.getD k []).length ≤ c2 ∧ k28.C w A2 (LL.getD k []).length (LL.getD k []) := by
  obtain ⟨ad, cs, rfl, _, hK, hcell⟩ := Kd.C_get h [] (k : Int) (by omega) (by omega)
  have hgd : LL.getD ((k : Int)).toNat [] = LL.getD k [] := by congr 1
  rw [hgd] at hK
  obtain ⟨A2, c2, rfl, hl2, hC2⟩ := hK
  refine ⟨ad, A2, c2, rfl, ?_, hl2, hC2⟩
  have := hcell 0 _ rfl
  rw [show (k : Int).toNat * (Kd.slice 28 k28).sz + 0 = k by show (k : Int).toNat * 1 + 0 = k; omega] at this
  exact this
theorem entry_get {w : World} {A : Option Addr} {l : List S28} (h : Kd.C k28 w A l.length l) {i : Nat} (hi : i < l.length) : ∃ ad, A = some ad ∧ w.cell? (ad.add (i * 5)) = some (.string l[i].f0) ∧ w.cell? ⟨(ad.add (i * 5)).block, (ad.add (i * 5)).off + 1, none⟩ = some (.int .i64 l[i].f1) ∧ w.cell? ⟨(ad.add (i * 5)).block, (ad.add (i * 5)).off + 2, none⟩ = some (.int .i64 l[i].f2) ∧ w.cell? ⟨(ad.add (i * 5)).block, (ad.add (i * 5)).off + 3, none⟩ = some (.string l[i].f3) ∧ w.cell? ⟨(ad.add (i * 5)).block, (ad.add (i * 5)).off + 4, none⟩ = some (.string l[i].f4) := by
  obtain ⟨ad, e, h0, h1, h2, h3, h4⟩ := at_T28 h (i : Int) (by omega) (by omega)
  rw [rd_nat28 l i hi, show ((i : Int)).toNat = i by omega] at h0 h1 h2 h3 h4
  exact ⟨ad, e, h0, h1, h2, h3, h4⟩
def ptrP (p : Nat) : Value := .pointer (some ⟨p, 0, none⟩)
/-- A row of told sources. -/
def kP : Kd Nat := Kd.scalar ptrP (fun _ => rfl)
theorem info33 : (Try.prog.info? 33).map (fun i => (i.zero, i.size, i.bytes)) = some (some (.pointer none), 1, 8) := by kernel_rfl
/-- Told sources, made one behind the other. -/
structure TM (wC wr : World) (INS : List (List S28)) (qs : List Nat) : Prop where
  all : ∀ j p : Nat, qs[j]? = some p → TlP wC wr p (INS.getD j []) 0
  nd : qs.Nodup
theorem TM.kept {wC wr w' : World} {INS : List (List S28)} {qs : List Nat} {S : Nat → Prop} (h : TM wC wr INS qs) (hk : Kept wr w' S) (hS : ∀ p, S p → ∃ cs t, wr.heap[p]? = some (.cells cs t (0, 0)) ∧ t ≠ 35) : TM wC w' INS qs := by
  refine ⟨fun j p hj => (TlK wC).keepP (h.all j p hj) hk (fun hs => ?_), h.nd⟩
  obtain ⟨cs, t, h1, hne⟩ := hS p hs
  obtain ⟨cs2, h2⟩ := (TlK wC).blkP (h.all j p hj)
  rw [h1] at h2
  injection h2 with h2
  injection h2 with _ h2
  exact hne h2
theorem TM.lt {wC wr : World} {INS : List (List S28)} {qs : List Nat} (h : TM wC wr INS qs) {j p : Nat} (hj : qs[j]? = some p) : p < wr.heap.size := by
  obtain ⟨cs2, h2⟩ := (TlK wC).blkP (h.all j p hj)
  exact blk_lt h2
theorem TM.snoc {wC wr w' : World} {INS : List (List S28)} {qs : List Nat} {p : Nat} {S : Nat → Prop} (h : TM wC wr INS qs) (hk : Kept wr w' S) (hS : ∀ p, S p → ∃ cs t, wr.heap[p]? = some (.cells cs t (0, 0)) ∧ t ≠ 35) (hp : wr.heap.size ≤ p) (hs : TlP wC w' p (INS.getD qs.length []) 0) : TM wC w' INS (qs ++ [p]) := by
  have h2 := h.kept hk hS
  refine ⟨fun j q hj => ?_, ?_⟩
  · by_cases hjl : j < qs.length
    · rw [List.getElem?_append_left hjl] at hj
      exact h2.all j q hj
    · have h3 := (List.getElem?_eq_some_iff.1 hj).1
      rw [List.length_append, List.length_singleton] at h3
      have : j = qs.length := by omega
      subst this
      rw [List.getElem?_append_right (Nat.le_refl _), Nat.sub_self] at hj
      injection hj with hj
      subst hj
      exact hs
  · refine List.nodup_append.2 ⟨h.nd, by simp, fun a ha b hb => ?_⟩
    rw [List.mem_singleton.1 hb]
    obtain ⟨j, hj, he⟩ := List.mem_iff_getElem.1 ha
    have := h.lt (j := j) (p := a) (by rw [List.getElem?_eq_getElem hj, he])
    omega
theorem sum_le (cnt : Nat → Nat) {i n : Nat} (h : i ≤ n) : ((List.range i).map cnt).sum ≤ ((List.range n).map cnt).sum := by
  induction n with
  | zero => rw [show i = 0 by omega]; exact Nat.le_refl _
  | succ n ih =>
    by_cases hi : i = n + 1
    · rw [hi]; exact Nat.le_refl _
    · refine Nat.le_trans (ih (by omega)) ?_
      rw [List.range_succ, List.map_append, List.sum_append]
      exact Nat.le_add_right _ _
theorem sum_succ (cnt : Nat → Nat) (i : Nat) : ((List.range (i + 1)).map cnt).sum = ((List.range i).map cnt).sum + cnt i := by
  rw [List.range_succ, List.map_append, List.sum_append]; simp
theorem told_at {w : World} {base : Nat} {ok : Nat → Prop} {A : Option Addr} {c : Nat} {qs : List Nat} (h : kP.R 33 w base ok (.slice A qs.length c) qs) {k : Nat} (hk : k < qs.length) : ∃ g, A = some ⟨g, 0, none⟩ ∧ w.cell? ⟨g, k, none⟩ = some (.pointer (some ⟨qs[k], 0, none⟩)) := by
  obtain ⟨g, cap, he, _, _, _⟩ := Kd.R_form h (by omega)
  injection he with h1 h2 h3
  subst h1
  refine ⟨g, rfl, ?_⟩
  obtain ⟨A', c', e, hle, hC⟩ := Kd.R_reads h
  injection e with e1 e2 e3
  subst e1
  have hr : ReadsOf ptrP 0 w (some ⟨g, 0, none⟩) qs.length qs := Kd.reads_of_C hC
  obtain ⟨ad, ea, hc⟩ := hr.at_ (k : Int) (by omega) (by omega)
  injection ea with ea
  subst ea
  rw [show ((k : Int)).toNat = k by omega, add_plain] at hc
  rw [hc]
  unfold ptrP rdOf
  rw [show ((k : Int)).toNat = k by omega, List.getD_eq_getElem?_getD, List.getElem?_eq_getElem hk]; rfl
theorem told_cell {wC : World} {ps : List (Option Nat)} {T : List S28} {B : Nat} {w : World} {m i : Nat} {q : List L28} {cnt : Nat → Nat} (h : MS wC (TlK wC) ps T B w m i q cnt) {j p : Nat} (hp : ps[j]? = some (some p)) : w.cell? ⟨p, 1, none⟩ = some (.int .i64 (cnt j : Int)) := by
  obtain ⟨g1, g2⟩ := h.st j p (List.getElem?_eq_some_iff.1 hp).1 hp
  by_cases hex : ∃ l ∈ q, l.at_ = j
  · obtain ⟨l, hl, ha⟩ := hex
    obtain ⟨_, A, cc, L, hb, _⟩ := g1 l hl ha
    rw [blk_cell hb 1]; rfl
  · obtain ⟨_, v, hb⟩ := g2 (fun l hl ha => hex ⟨l, hl, ha⟩)
    rw [blk_cell hb 1]; rfl
theorem some_at {qs : List Nat} {j : Nat} (hj : j < qs.length) : ∃ p, (qs.map some)[j]? = some (some p) := ⟨qs[j], by rw [List.getElem?_map, List.getElem?_eq_getElem hj]; rfl⟩
theorem nodup_inj {qs : List Nat} (h : qs.Nodup) {i j p : Nat} (hi : qs[i]? = some p) (hj : qs[j]? = some p) : i = j := by
  obtain ⟨hi1, hi2⟩ := List.getElem?_eq_some_iff.1 hi
  obtain ⟨hj1, hj2⟩ := List.getElem?_eq_some_iff.1 hj
  unfold List.Nodup at h
  rw [List.pairwise_iff_getElem] at h
  rcases Nat.lt_trichotomy i j with hl | hl | hl
  · exact absurd (by rw [hi2, hj2]) (h i j hi1 hj1 hl)
  · exact hl
  · exact absurd (by rw [hi2, hj2]) (h j i hj1 hi1 hl)
set_option maxHeartbeats 8000000 in
set_option maxRecDepth 100000 in
theorem incipitlaw18_MergeAll.calls (A : Option Addr) (c : Nat) (LL : List (List S28)) (stop : Int) (w : World) (hr : Kd.C (Kd.slice 28 k28) w A LL.length LL) (hc : LL.length ≤ c) : Calls Try.prog 3 #[.slice A LL.length c, .int .i64 stop] w fun e w' => e = .returned (.bool true) ∧ Below w.heap.size w w' := by
  have HR := Aside0.mk hr
  have hlm := hr.2.1
  clear hr
  go_enter Try.func3, Try.ntmps3
  go_upto_region 1 with (fail)
  go_cut [5] (fun s5 wc => s5 = .bool true ∧ Aside0 (Below w.heap.size w wc))
  case first =>
    go_wp2_with (fail)
    refine (incipitlaw18_begun.calls w).mono ?_
    rintro e w1 ⟨rfl, hb⟩
    have HB := Aside0.mk hb
    clear hb
    go_wp2_with (fail)
    go_meet
    case rel => exact ⟨rfl, HB⟩
  case rest =>
    obtain ⟨rfl, HB⟩ := hcut
    obtain ⟨w1, hw1⟩ : ∃ w1, w1 = wc := ⟨_, rfl⟩
    subst hw1
    go_upto_region 5 with (fail)
    go_cut [7] (fun s7 wc => s7 = .slice none 0 0 ∧ Aside0 (w1 = wc))
    case first =>
      go_wp2_with (fail)
      go_meet
      case rel => exact ⟨rfl, ⟨rfl⟩⟩
    case rest =>
    obtain ⟨rfl, hwo⟩ := hcut
    have hwe := hwo.out
    subst hwe
    clear hwo
    refine (by assumption : ∀ (a : Act) (w : World), Code.wp Try.prog (Code.seq (Code.seq (Code.region 6 _ _) _) _) _ a w → _) _ _ ?_
    refine wp_seq_k (fun KA hKA => ?_)
    have HKA := Aside0.mk hKA
    clear hKA
    go_cut [6] (fun s6 wc => ∃ (n : Nat) (Ai : Option Addr) (ci : Nat) (INS : List (List S28)), s6 = .slice Ai n ci ∧ n ≤ 8 ∧ n ≤ ci ∧ Aside0 (INS.length = n) ∧ Aside0 (∀ l ∈ INS, Inc l ∧ l.length ≤ 15) ∧ Aside0 (Kd.C (Kd.slice 28 k28) wc Ai INS.length INS) ∧ Aside0 (Below w.heap.size w wc))
    case first =>
      go_wp2_with (fail)
      go_loopg [6, 8] (min LL.length 8) (fun kq s6 s8 wr => ∃ (i : Nat) (Ai : Option Addr) (ci : Nat) (INS : List (List S28)), s6 = .slice Ai i ci ∧ s8 = .int .i64 i ∧ i + kq = min LL.length 8 ∧ Aside0 (INS.length = i) ∧ Aside0 (∀ l ∈ INS, Inc l ∧ l.length ≤ 15) ∧ Aside0 ((Kd.slice 28 k28).R 24 wr w.heap.size (fun _ => True) (.slice Ai i ci) INS) ∧ Aside0 (Below w.heap.size w wr))
      case atStart => exact ⟨0, none, 0, [], rfl, rfl, by omega, ⟨rfl⟩, ⟨fun l hl => by cases hl⟩, ⟨Kd.R_nil _ _ _ _ _⟩, HB⟩
      case round =>
        clear HB
        obtain ⟨i, Ai, ci, INS, rfl, rfl, hi, HIL, HINC, HIN, HB⟩ := hrel
        cases gk with
        | succ kk =>
          have hil : i < LL.length := by omega
          have hi8 : i < 8 := by omega
          have hia : ((i : Int) < (LL.length : Int)) = True := eq_true (by omega)
          have hib : (i < LL.length) = True := eq_true hil
          have hic : ((i : Int) < 8) = True := eq_true (by omega)
          have hid : (i < 8) = True := eq_true hi8
          have hi0 : ((0 : Int) ≤ (i : Int)) = True := eq_true (by omega)
          have hwi : IntKind.i64.wrap ((i : Int) + 1) = ((i + 1 : Nat) : Int) := by rw [IntKind.wrap_i64]; omega
          obtain ⟨ad, A2, c2, rfl, hcell, hl2, hC2⟩ := rows_at (Kd.C_below HR.out HB.out) hil
          obtain ⟨es, ⟨KC, hKC⟩, hes⟩ := CutAll_ev (LL.getD i []) 15 (by omega)
          have HKC := Aside0.mk (hKC KC (Nat.le_refl _))
          have HC2 := Aside0.mk hC2
          have hcc := incipitlaw7_CutAll.calls KC A2 c2 (LL.getD i []) 15 es wr hC2 hl2 HKC.out
          have HCC := Aside0.mk hcc
          generalize (LL.getD i []).length = nl at hcell HCC
          obtain ⟨wo, hwo⟩ : ∃ wo, wo = wr := ⟨_, rfl⟩
          subst hwo
          have HI := Aside0.mk hi
          clear hC2 hcc hKC hl2 hi
          go_wp2_with (fail)
          refine HCC.out.mono ?_
          rintro e w2 ⟨v2, rfl, hRe, hb⟩
          obtain ⟨Ae, ce, ee⟩ := Kd.R_slice hRe
          subst ee
          have HE := Aside0.mk (Kd.R_reads' hRe).2
          have HB2 := Aside0.mk (below_step HB.out hb)
          have HIN2 := Aside0.mk (Kd.R_below HIN.out hb)
          obtain ⟨ne, hne⟩ : ∃ ne, Aside0 (ne = es.length) := ⟨_, ⟨rfl⟩⟩
          rw [← hne.out]
          have hne15 : ne ≤ 15 := by rw [hne.out]; exact hes
          have hww := below_size HB2.out
          clear hRe hb HIN HB HCC HC2 hes hcell
          go_wp2_with (fail)
          go_loopg [9, 11] ne (fun kq s9 s11 wr => ∃ (k : Nat) (Al : Option Addr) (cl : Nat), s9 = .slice Al k cl ∧ s11 = .int .i64 k ∧ k + kq = ne ∧ Aside0 (k28.R 28 wr w.heap.size (fun _ => True) (.slice Al k cl) (srtE (es.take k))) ∧ Aside0 (Below w2.heap.size w2 wr))
          case atStart => exact ⟨0, none, 0, rfl, rfl, by omega, ⟨Kd.R_nil _ _ _ _ _⟩, ⟨Below.refl _ _⟩⟩
          case round =>
            obtain ⟨k, Al, cl, rfl, rfl, hk, HL, HBk⟩ := hrel
            obtain ⟨wi, hwi2⟩ : ∃ wi, wi = wr := ⟨_, rfl⟩
            subst hwi2
            cases gk with
            | succ k2 =>
              have hke : k < ne := by omega
              have hkn : k < es.length := by rw [← hne.out]; exact hke
              have hka : ((k : Int) < (ne : Int)) = True := eq_true (by omega)
              have hkb : (k < ne) = True := eq_true hke
              have hk0 : ((0 : Int) ≤ (k : Int)) = True := eq_true (by omega)
              have hwk : IntKind.i64.wrap ((k : Int) + 1) = ((k + 1 : Nat) : Int) := by rw [IntKind.wrap_i64]; omega
              obtain ⟨ad2, rfl, x0, x1, x2, x3, x4⟩ := entry_get (Kd.C_below HE.out.2 HBk.out) hkn
              have htk : es.take (k + 1) = es.take k ++ [es[k]] := by rw [List.take_add_one, List.getElem?_eq_getElem hkn]; rfl
              have hlk : (srtE (es.take k)).length = k := by rw [srtE_len, List.length_take]; omega
              obtain ⟨KI, hKI⟩ := Into_ev (srtE (es.take k)) es[k] (by omega)
              have hci := incipitref12_Into.calls KI Al cl (srtE (es.take k)) es[k].f0 es[k].f1 es[k].f2 es[k].f3 es[k].f4 _ wi (Kd.R_reads' HL.out).2.2 (by have := (Kd.R_reads' HL.out).2.1; omega) (hKI KI (Nat.le_refl _))
              rw [hlk] at hci
              have HCI := Aside0.mk hci
              obtain ⟨x, hx⟩ : ∃ x, Aside0 (x = es[k]) := ⟨_, ⟨rfl⟩⟩
              rw [← hx.out] at x0 x1 x2 x3 x4 HCI
              have HTK : Aside0 (srtE (es.take (k + 1)) = insE x (srtE (es.take k))) := ⟨by rw [htk, srtE_snoc, hx.out]⟩
              have HLK := Aside0.mk hlk
              clear htk hlk hKI hci
              go_wp2_with (fail)
              refine HCI.out.mono ?_
              rintro e w3 ⟨v3, rfl, hR3, hb3⟩
              obtain ⟨A3, c3, e3⟩ := Kd.R_slice hR3
              rw [insE_len, HLK.out] at e3
              subst e3
              have HL3 : Aside0 (k28.R 28 w3 w.heap.size (fun _ => True) (.slice A3 (k + 1) c3) (srtE (es.take (k + 1)))) := ⟨by rw [HTK.out]; exact Kd.R_lower hR3 (by have := HBk.out.size; omega)⟩
              have HB3 := Aside0.mk (below_step HBk.out hb3)
              clear hR3 hb3 HL HBk x0 x1 x2 x3 x4 HCI
              go_wp2_with (fail)
              go_roundg k2
              case measure => omega
              case rel => exact ⟨k + 1, A3, c3, rfl, rfl, by omega, HL3, HB3⟩
            | zero =>
              have hkn : k = ne := by omega
              subst hkn
              have hka : ((k : Int) < (k : Int)) = False := eq_false (by omega)
              have hinc := srtE_inc es
              have hsl : (srtE es).length = k := by rw [srtE_len, hne.out]
              have HLF : Aside0 (k28.R 28 wi w.heap.size (fun _ => True) (.slice Al k cl) (srtE es)) := ⟨by have := HL.out; rw [hne.out, List.take_length] at this; rw [hne.out]; exact this⟩
              have HIN3 := Aside0.mk (Kd.R_below HIN2.out HBk.out)
              have HB3 := Aside0.mk (below_step HB2.out HBk.out)
              have HSI := Aside0.mk (And.intro hinc (show (srtE es).length ≤ 15 by omega))
              have hnb : ∀ b, (Value.slice Al k cl).ownBlock = some b → some b ≠ (Value.slice Ai i ci).ownBlock := fun b hb he => by
                obtain ⟨cs1, h1⟩ := Kd.R_typed HLF.out b hb
                obtain ⟨cs2, h2⟩ := Kd.R_typed HIN3.out b he.symm
                rw [h1] at h2
                injection h2 with h2
                injection h2 with _ h2
                cases h2
              have HLM := Aside0.mk (k28_R_ok (ok' := fun b => some b ≠ (Value.slice Ai i ci).ownBlock) HLF.out hnb)
              have HI9 := HI.out
              have hi15 : i ≤ 8 := by omega
              clear hinc hsl hnb HL HBk HIN2 HB2
              go_wp2_with (first | ((with_reducible refine gate_builtin (b := .append) (xs := #[.tmp 56, .tmp 58]) rfl ?_); at_builtin; refine Kd.R_append (Kd.slice 28 k28) (w0 := w) (W := wi) w.heap.size rfl (.tmp 56) (.tmp 58) 22 24 (.slice none 0 0) 24 rfl Try.underlying22 info24 rfl (by decide) (by omega) (.slice Ai i ci) INS (srtE es) [.slice Al k cl] (fun _ => True) (fun b => some b ≠ (Value.slice Ai i ci).ownBlock) rfl rfl ?aP ?aK ?aF ?aO ?aB ?aS ?aL ?_; (case aP => exact Kd.M_row HLM.out); (case aK => exact (fun k hk => ⟨trivial, hk⟩)); (case aF => exact (fun _ _ => trivial)); (case aO => exact HIN3.out); (case aB => exact HB3.out); (case aS => exact below_size HB3.out); (case aL => (rw [HIL.out]; omega)); intro v5 w5 ho hb5 hg5 hat5; obtain ⟨A5, c5_, e5⟩ := Kd.R_slice ho; have hl5 : (INS ++ [srtE es]).length = i + 1 := (by rw [List.length_append, HIL.out]; rfl); rw [hl5] at e5; subst e5; have HR5 := Aside0.mk ho; have HB5 := Aside0.mk hb5; clear ho hb5 hg5 hat5 hl5))
              go_roundg kk
              case measure => omega
              case rel => exact ⟨i + 1, A5, c5_, INS ++ [srtE es], rfl, rfl, by have := HI.out; omega, ⟨by rw [List.length_append, HIL.out]; rfl⟩, ⟨fun l hl => by
                rcases List.mem_append.1 hl with hl | hl
                · exact HINC.out l hl
                · rw [List.mem_singleton.1 hl]; exact HSI.out⟩, HR5, HB5⟩
        | zero =>
          have him : i = min LL.length 8 := by omega
          have hi8 : i ≤ 8 := by omega
          have hcl := (Kd.R_reads' HIN.out).2.1
          have hCi := (Kd.R_reads' HIN.out).2.2
          have HCI := Aside0.mk hCi
          clear hCi hi
          by_cases h : i < LL.length
          · have hia : ((i : Int) < (LL.length : Int)) = True := eq_true (by omega)
            have hib : (i < LL.length) = True := eq_true h
            have hic : ((i : Int) < 8) = False := eq_false (by omega)
            have hid : (i < 8) = False := eq_false (by omega)
            clear him h
            go_wp2_with (fail)
            go_meet
            case rel => exact ⟨i, Ai, ci, INS, rfl, hi8, hcl, HIL, HINC, HCI, HB⟩
          · have hia : ((i : Int) < (LL.length : Int)) = False := eq_false (by omega)
            have hib : (i < LL.length) = False := eq_false h
            clear him h
            go_wp2_with (fail)
            go_meet
            case rel => exact ⟨i, Ai, ci, INS, rfl, hi8, hcl, HIL, HINC, HCI, HB⟩
    case rest =>
      clear HB HR
      obtain ⟨n, Ai, ci, INS, rfl, hn8, hnc, HIL, HINC, HIN, HB⟩ := hcut
      obtain ⟨wa, hwa⟩ : ∃ wa, wa = wc := ⟨_, rfl⟩
      subst hwa
      refine HKA.out _ _ ?_
      clear HKA
      go_wp2_with (fail)
      go_loopg [7, 12] n (fun kq s7 s12 wr => ∃ (a nw : Nat) (Aw : Option Addr) (cw : Nat), s7 = .slice Aw nw cw ∧ s12 = .int .i64 a ∧ a + kq = n ∧ Aside0 (nw = ((INS.take a).flatten).length) ∧ Aside0 (k28.R 28 wr w.heap.size (fun _ => True) (.slice Aw nw cw) (srtE (INS.take a).flatten)) ∧ Aside0 (Below wa.heap.size wa wr))
      case atStart => exact ⟨0, 0, none, 0, rfl, rfl, by omega, ⟨rfl⟩, ⟨Kd.R_nil _ _ _ _ _⟩, ⟨Below.refl _ _⟩⟩
      case round =>
        obtain ⟨a, nw, Aw, cw, rfl, rfl, ha, HNW, HW, HBa⟩ := hrel
        obtain ⟨wo, hwo⟩ : ∃ wo, wo = wr := ⟨_, rfl⟩
        subst hwo
        cases gk with
        | succ kk =>
          have han : a < n := by omega
          have hal : a < INS.length := by rw [HIL.out]; exact han
          have hia : ((a : Int) < (n : Int)) = True := eq_true (by omega)
          have hib : (a < n) = True := eq_true han
          have hi0 : ((0 : Int) ≤ (a : Int)) = True := eq_true (by omega)
          have hwi : IntKind.i64.wrap ((a : Int) + 1) = ((a + 1 : Nat) : Int) := by rw [IntKind.wrap_i64]; omega
          obtain ⟨ad, A2, c2, rfl, hcell, hl2, hC2⟩ := rows_at HIN.out hal
          obtain ⟨es, hes⟩ : ∃ es, Aside0 (es = INS.getD a []) := ⟨_, ⟨rfl⟩⟩
          rw [← hes.out] at hcell hl2 hC2
          obtain ⟨ne, hne⟩ : ∃ ne, Aside0 (ne = es.length) := ⟨_, ⟨rfl⟩⟩
          rw [← hne.out] at hcell hl2
          have hne15 : ne ≤ 15 := by
            rw [hne.out, hes.out, List.getD_eq_getElem?_getD, List.getElem?_eq_getElem hal]
            exact (HINC.out _ (List.getElem_mem hal)).2
          have htk : (INS.take (a + 1)).flatten = (INS.take a).flatten ++ es := by
            rw [List.take_add_one, List.flatten_append, hes.out, List.getD_eq_getElem?_getD, List.getElem?_eq_getElem hal]
            simp
          have hfl : ((INS.take a).flatten).length ≤ 15 * a := by
            have : ∀ l : List (List S28), (∀ x ∈ l, x.length ≤ 15) → l.flatten.length ≤ 15 * l.length := by
              intro l
              induction l with
              | nil => intro _; exact Nat.le_refl _
              | cons x l ih =>
                intro h
                rw [List.flatten_cons, List.length_append, List.length_cons]
                have := h x List.mem_cons_self
                have := ih (fun y hy => h y (List.mem_cons_of_mem _ hy))
                omega
            refine Nat.le_trans (this _ (fun x hx => (HINC.out x (List.mem_of_mem_take hx)).2)) ?_
            rw [List.length_take]
            exact Nat.mul_le_mul_left _ (Nat.min_le_left _ _)
          have HTK := Aside0.mk htk
          have HFL := Aside0.mk hfl
          have HC2 := Aside0.mk hC2
          have HIN2 := HIN
          have hnw : nw ≤ 15 * a := by rw [HNW.out]; exact hfl
          clear htk hfl hC2
          go_wp2_with (fail)
          go_loopg [7, 13] ne (fun kq s7 s13 wr => ∃ (k : Nat) (Al : Option Addr) (cl : Nat), s7 = .slice Al (nw + k) cl ∧ s13 = .int .i64 k ∧ k + kq = ne ∧ Aside0 (k28.R 28 wr w.heap.size (fun _ => True) (.slice Al (nw + k) cl) (srtE ((INS.take a).flatten ++ es.take k))) ∧ Aside0 (Below wa.heap.size wa wr))
          case atStart => exact ⟨0, Aw, cw, rfl, rfl, by omega, ⟨by rw [List.take_zero, List.append_nil]; exact HW.out⟩, HBa⟩
          case round =>
            clear HW HBa
            obtain ⟨k, Al, cl, rfl, rfl, hk, HL, HBk⟩ := hrel
            obtain ⟨wi, hwi2⟩ : ∃ wi, wi = wr := ⟨_, rfl⟩
            subst hwi2
            have hcell2 := pw_cell_below HBk.out hcell
            cases gk with
            | succ k2 =>
              have hke : k < ne := by omega
              have hkn : k < es.length := by rw [← hne.out]; exact hke
              have hka : ((k : Int) < (ne : Int)) = True := eq_true (by omega)
              have hkb : (k < ne) = True := eq_true hke
              have hk0 : ((0 : Int) ≤ (k : Int)) = True := eq_true (by omega)
              have hwk : IntKind.i64.wrap ((k : Int) + 1) = ((k + 1 : Nat) : Int) := by rw [IntKind.wrap_i64]; omega
              obtain ⟨ad2, rfl, x0, x1, x2, x3, x4⟩ := entry_get (Kd.C_below HC2.out HBk.out) hkn
              have htk : es.take (k + 1) = es.take k ++ [es[k]] := by rw [List.take_add_one, List.getElem?_eq_getElem hkn]; rfl
              have hlk : (srtE ((INS.take a).flatten ++ es.take k)).length = nw + k := by rw [srtE_len, List.length_append, ← HNW.out, List.length_take]; omega
              obtain ⟨KI, hKI⟩ := Into_ev (srtE ((INS.take a).flatten ++ es.take k)) es[k] (by omega)
              have hci := incipitref12_Into.calls KI Al cl (srtE ((INS.take a).flatten ++ es.take k)) es[k].f0 es[k].f1 es[k].f2 es[k].f3 es[k].f4 _ wi (Kd.R_reads' HL.out).2.2 (by have := (Kd.R_reads' HL.out).2.1; omega) (hKI KI (Nat.le_refl _))
              rw [hlk] at hci
              have HCI := Aside0.mk hci
              obtain ⟨x, hx⟩ : ∃ x, Aside0 (x = es[k]) := ⟨_, ⟨rfl⟩⟩
              rw [← hx.out] at x0 x1 x2 x3 x4 HCI
              have HTK2 : Aside0 (srtE ((INS.take a).flatten ++ es.take (k + 1)) = insE x (srtE ((INS.take a).flatten ++ es.take k))) := ⟨by rw [htk, ← List.append_assoc, srtE_snoc, hx.out]⟩
              have HLK := Aside0.mk hlk
              clear htk hlk hKI hci
              go_wp2_with (fail)
              refine HCI.out.mono ?_
              rintro e w3 ⟨v3, rfl, hR3, hb3⟩
              obtain ⟨A3, c3, e3⟩ := Kd.R_slice hR3
              rw [insE_len, HLK.out] at e3
              subst e3
              have HL3 : Aside0 (k28.R 28 w3 w.heap.size (fun _ => True) (.slice A3 (nw + k + 1) c3) (srtE ((INS.take a).flatten ++ es.take (k + 1)))) := ⟨by rw [HTK2.out]; exact Kd.R_lower hR3 (by have := HBk.out.size; have := HB.out.size; omega)⟩
              have HB3 := Aside0.mk (below_step HBk.out hb3)
              clear hR3 hb3 HL HBk x0 x1 x2 x3 x4 HCI hcell2
              go_wp2_with (fail)
              go_roundg k2
              case measure => omega
              case rel => exact ⟨k + 1, A3, c3, rfl, rfl, by omega, HL3, HB3⟩
            | zero =>
              have hkn : k = ne := by omega
              subst hkn
              have hka : ((k : Int) < (k : Int)) = False := eq_false (by omega)
              have HLF : Aside0 (k28.R 28 wi w.heap.size (fun _ => True) (.slice Al (nw + k) cl) (srtE (INS.take (a + 1)).flatten)) := ⟨by have := HL.out; rw [hne.out, List.take_length] at this; rw [hne.out, HTK.out]; exact this⟩
              have HNW2 : Aside0 (nw + k = ((INS.take (a + 1)).flatten).length) := ⟨by rw [HTK.out, List.length_append, ← HNW.out, ← hne.out]⟩
              clear HL
              go_wp2_with (fail)
              go_roundg kk
              case measure => omega
              case rel => exact ⟨a + 1, nw + k, Al, cl, rfl, rfl, by omega, HNW2, HLF, HBk⟩
        | zero =>
          have han : a = n := by omega
          have hms := merge_spec INS (fun l hl => (HINC.out l hl).1)
          obtain ⟨Z, hZ⟩ : ∃ Z, Aside0 (Z = srtT (tags INS 0)) := ⟨_, ⟨rfl⟩⟩
          rw [← hZ.out] at hms
          have hTW : srtE (INS.take a).flatten = Z.map Prod.fst := by
            rw [hZ.out, srtT_fst, tags_fst, han, ← HIL.out, List.take_length]
          have hZl : Z.length = nw := by rw [HNW.out, ← List.length_map (f := Prod.fst), ← hTW, srtE_len]
          have hnw : nw ≤ 15 * 8 := by
            have : ∀ l : List (List S28), (∀ x ∈ l, x.length ≤ 15) → l.flatten.length ≤ 15 * l.length := by
              intro l
              induction l with
              | nil => intro _; exact Nat.le_refl _
              | cons x l ih =>
                intro h
                rw [List.flatten_cons, List.length_append, List.length_cons]
                have := h x List.mem_cons_self
                have := ih (fun y hy => h y (List.mem_cons_of_mem _ hy))
                omega
            rw [HNW.out]
            refine Nat.le_trans (this _ (fun x hx => (HINC.out x (List.mem_of_mem_take hx)).2)) ?_
            rw [List.length_take]
            exact Nat.mul_le_mul_left _ (by omega)
          have hrw := HW.out
          rw [hTW] at hrw
          have hinw := Kd.C_below HIN.out HBa.out
          have hcl := merge_All.calls wo Ai ci INS Z hinw (by rw [HIL.out]; omega) hms.1 hms.2.1 hms.2.2 (by omega)
          rw [HIL.out] at hcl
          have HCL := Aside0.mk hcl
          have HINW := Aside0.mk hinw
          obtain ⟨T, hT⟩ : ∃ T, Aside0 (T = Z.map Prod.fst) := ⟨_, ⟨rfl⟩⟩
          rw [← hT.out] at hrw HCL
          have hTl : T.length = nw := by rw [hT.out, List.length_map]; exact hZl
          have HTL := Aside0.mk hTl
          have HTW := Aside0.mk hrw
          have HMS := Aside0.mk hms
          have HB4 := Aside0.mk (below_step HB.out HBa.out)
          have hia : ((a : Int) < (n : Int)) = False := eq_false (by omega)
          have hib : (a < n) = False := eq_false (by omega)
          clear hms hTW hZl hrw hinw hcl hTl HW HNW HBa HIN ha han
          go_wp2_with (fail)
          refine HCL.out.mono ?_
          rintro e w3 ⟨v3, rfl, hR3, hb3⟩
          obtain ⟨A3, c3, e3⟩ := Kd.R_slice hR3
          subst e3
          obtain ⟨KE, hKE⟩ := EqAll_ev T (by have := HTL.out; omega)
          have hce := incipitref12_EqAll.calls KE A3 c3 T Aw cw T true w3 (Kd.R_reads' hR3).2.2 (Kd.R_reads' hR3).2.1 (by have := (Kd.R_reads' (Kd.R_below HTW.out hb3)).2.2; exact this) (by have := (Kd.R_reads' HTW.out).2.1; have := HTL.out; omega) (hKE KE (Nat.le_refl _))
          rw [HTL.out] at hce
          have HCE := Aside0.mk hce
          rw [HTL.out]
          have HTW3 := Aside0.mk (Kd.R_below HTW.out hb3)
          have HB5 := Aside0.mk (below_step HB4.out hb3)
          have HIN3 := Aside0.mk (Kd.C_below HINW.out hb3)
          clear hR3 hb3 hKE hce HCL HTW HINW HB4
          go_wp2_with (fail)
          refine HCE.out.mono ?_
          rintro e wC ⟨rfl, hb5⟩
          have HTWC := Aside0.mk (Kd.R_below HTW3.out hb5)
          have HBC := Aside0.mk (below_step HB5.out hb5)
          have HINC2 := Aside0.mk (Kd.C_below HIN3.out hb5)
          clear hb5 HCE HTW3 HB5 HIN3
          go_wp2_with (fail)
          go_loopg [14, 15, 16] n (fun kq s14 s15 s16 wr => ∃ (k : Nat) (As : Option Addr) (cs : Nat) (At : Option Addr) (ct : Nat) (qs : List Nat), s14 = .slice As k cs ∧ s15 = .slice At k ct ∧ s16 = .int .i64 k ∧ k + kq = n ∧ Aside0 (qs.length = k) ∧ Aside0 ((kS 33).R 68 wr wC.heap.size (fun _ => True) (.slice As k cs) (qs.map some)) ∧ Aside0 (kP.R 33 wr wC.heap.size (fun _ => True) (.slice At k ct) qs) ∧ Aside0 (TM wC wr INS qs) ∧ Aside0 (Below wC.heap.size wC wr))
          case atStart => exact ⟨0, none, 0, none, 0, [], rfl, rfl, rfl, by omega, ⟨rfl⟩, ⟨Kd.R_nil _ _ _ _ _⟩, ⟨Kd.R_nil _ _ _ _ _⟩, ⟨⟨fun j p hj => (by cases hj), List.nodup_nil⟩⟩, ⟨Below.refl _ _⟩⟩
          case round =>
            obtain ⟨k, As, cs, At, ct, qs, rfl, rfl, rfl, hk, HQL, HSR, HTR, HTM, HBk⟩ := hrel
            obtain ⟨wi, hwi2⟩ : ∃ wi, wi = wr := ⟨_, rfl⟩
            subst hwi2
            cases gk with
            | succ k2 =>
              have hkn : k < n := by omega
              have hkl : k < INS.length := by rw [HIL.out]; exact hkn
              have hka : ((k : Int) < (n : Int)) = True := eq_true (by omega)
              have hkb : (k < n) = True := eq_true hkn
              have hk0 : ((0 : Int) ≤ (k : Int)) = True := eq_true (by omega)
              have hwk : IntKind.i64.wrap ((k : Int) + 1) = ((k + 1 : Nat) : Int) := by rw [IntKind.wrap_i64]; omega
              obtain ⟨ad, A2, c2, rfl, hcell, hl2, hC2⟩ := rows_at HINC2.out hkl
              have hcell2 := pw_cell_below HBk.out hcell
              have hes15 : (INS.getD k []).length ≤ 15 := by
                rw [List.getD_eq_getElem?_getD, List.getElem?_eq_getElem hkl]
                exact (HINC.out _ (List.getElem_mem hkl)).2
              have HC2 := Aside0.mk hC2
              obtain ⟨ne, hne⟩ : ∃ ne, Aside0 (ne = (INS.getD k []).length) := ⟨_, ⟨rfl⟩⟩
              rw [← hne.out] at hcell2 hl2 hes15
              clear hcell hC2
              go_upto_region 31 with (fail)
              have hbk := blk_new wi (Obj.cells #[.slice A2 ne c2, .int .i64 0] 35)
              have hwC := HBk.out.size
              have HSR2 := Aside0.mk (Kd.R_alloc HSR.out (Obj.cells #[.slice A2 ne c2, .int .i64 0] 35))
              have HTR2 := Aside0.mk (Kd.R_alloc HTR.out (Obj.cells #[.slice A2 ne c2, .int .i64 0] 35))
              have HB2 := Aside0.mk (below_alloc HBk.out (Obj.cells #[.slice A2 ne c2, .int .i64 0] 35))
              have HTM2 := Aside0.mk (HTM.out.snoc (p := wi.heap.size) (S := fun _ => False) ((Kept.refl wi _).alloc (Obj.cells #[.slice A2 ne c2, .int .i64 0] 35)) (fun _ h => h.elim) (Nat.le_refl _) ⟨by omega, A2, c2, INS.getD k [], by rw [← hne.out]; exact hbk, by rw [← hne.out]; exact hl2, HC2.out, by rw [HQL.out]; rfl, by omega, by rw [← hne.out]; omega⟩)
              have hpw : wC.heap.size ≤ wi.heap.size := hwC
              have hww := below_size HBC.out
              generalize wi.heap.size = p at HTM2 hpw ⊢
              generalize wi.alloc (Obj.cells #[.slice A2 ne c2, .int .i64 0] 35) = w6 at *
              clear hbk HSR HTR HTM HBk hcell2 hl2
              go_wp2_with (first
                | ((with_reducible refine gate_builtin (b := .append) (xs := #[.tmp 101, .tmp 103]) rfl ?_); at_builtin; refine Kd.R_append kP (w0 := wC) (W := w6) wC.heap.size rfl (.tmp 101) (.tmp 103) 32 33 (.pointer none) 8 rfl Try.underlying32 info33 rfl (by decide) (by omega) (.slice At k ct) qs p [.pointer (some ⟨p, 0, none⟩)] (fun _ => True) (fun _ => False) rfl rfl ?aP (fun k hk => hk.elim) ?aF ?aO ?aB ?aS ?aL ?_; (case aP => exact rfl); (case aF => exact (fun _ _ => trivial)); (case aO => exact HTR2.out); (case aB => exact HB2.out); (case aS => exact below_size HB2.out); (case aL => (rw [HQL.out]; omega)); intro v7 w7 ho hb7 hg7 hat7; obtain ⟨A7, c7, e7⟩ := Kd.R_slice ho; have hl7 : (qs ++ [p]).length = k + 1 := (by rw [List.length_append, HQL.out]; rfl); rw [hl7] at e7; subst e7; have HTR7 := Aside0.mk ho; have HB7 := Aside0.mk hb7; have HK7 := Aside0.mk (Kept.of_grown (S := fun i => ∃ cs, w6.heap[i]? = some (.cells cs 33 (0, 0))) hg7 (Kept.refl w6 _) (fun i hi => .inl (Kd.R_typed HTR2.out i hi))); have HTM7 := Aside0.mk (HTM2.out.kept HK7.out (fun q ⟨cs, h⟩ => ⟨cs, 33, h, by decide⟩)); have HSR7 := Aside0.mk (R_kept HSR2.out HK7.out (fun i ⟨cs, h⟩ _ => ⟨cs, 33, h, by intro q hq; simp [kS, Kd.scalar] at hq; subst hq; decide⟩)); have HG7 := Aside0.mk hg7; clear ho hb7 hg7 hat7 hl7)
                | ((with_reducible refine gate_builtin (b := .append) (xs := #[.tmp 105, .tmp 108]) rfl ?_); at_builtin; refine Kd.R_append (kS 33) (w0 := wC) (W := w7) wC.heap.size rfl (.tmp 105) (.tmp 108) 31 68 .nilIface 16 rfl Try.underlying31 info68 rfl (by decide) (by omega) (.slice As k cs) (qs.map some) (some p) [.iface 33 (.pointer (some ⟨p, 0, none⟩))] (fun _ => True) (fun _ => False) rfl rfl ?bP (fun k hk => hk.elim) ?bF ?bO ?bB ?bS ?bL ?_; (case bP => exact rfl); (case bF => exact (fun _ _ => trivial)); (case bO => exact HSR7.out); (case bB => exact HB7.out); (case bS => exact below_size HB7.out); (case bL => (rw [List.length_map, HQL.out]; omega)); intro v8 w8 ho hb8 hg8 hat8; obtain ⟨A8, c8, e8⟩ := Kd.R_slice ho; have hl8 : (qs.map some ++ [some p]).length = k + 1 := (by rw [List.length_append, List.length_map, HQL.out]; rfl); rw [hl8] at e8; subst e8; have HSR8 := Aside0.mk ho; have HB8 := Aside0.mk hb8; have HK8 := Aside0.mk (Kept.of_grown (S := fun i => ∃ cs, w7.heap[i]? = some (.cells cs 68 (0, 0))) hg8 (Kept.refl w7 _) (fun i hi => .inl (Kd.R_typed HSR7.out i hi))); have HTM8 := Aside0.mk (HTM7.out.kept HK8.out (fun q ⟨cs, h⟩ => ⟨cs, 68, h, by decide⟩)); have HTR8 := Aside0.mk (R_kept HTR7.out HK8.out (fun i ⟨cs, h⟩ _ => ⟨cs, 68, h, by intro q hq; simp [kP, Kd.scalar] at hq; subst hq; decide⟩)); have HG8 := Aside0.mk hg8; clear ho hb8 hg8 hat8 hl8))
              go_roundg k2
              case measure => omega
              case rel => exact ⟨k + 1, A8, c8, A7, c7, qs ++ [p], rfl, rfl, rfl, by omega, ⟨by rw [List.length_append, HQL.out]; rfl⟩, ⟨by rw [List.map_append]; exact HSR8.out⟩, HTR8, HTM8, HB8⟩
            | zero =>
              have hkn : k = n := by omega
              subst hkn
              have hka : ((k : Int) < (k : Int)) = False := eq_false (by omega)
              have hlps : (qs.map some).length = k := by rw [List.length_map, HQL.out]
              have hps : ∀ j p : Nat, (qs.map some)[j]? = some (some p) → qs[j]? = some p := by
                intro j p hj
                rw [List.getElem?_map] at hj
                cases hq : qs[j]? with
                | none => rw [hq] at hj; cases hj
                | some q =>
                  rw [hq] at hj
                  simpa using hj
              have hmsz := HMS.out
              have hql : QK (qs.map some) (rkL Z) (qs.map some).length = QL (rkL Z) INS.length := by
                rw [hlps, HIL.out]
                exact QK_QL (fun j hj => .inr (some_at (by rw [HQL.out]; exact hj)))
              have hinv := Inv_tags Z INS.length hmsz.1 hmsz.2.1
              have hinj : ∀ i j p : Nat, (qs.map some)[i]? = some (some p) → (qs.map some)[j]? = some (some p) → i = j := by
                intro i j p hi hj
                exact nodup_inj HTM.out.nd (hps i p hi) (hps j p hj)
              have hcn := merge_New.calls wC (TlK wC) wi wC.heap.size As cs (qs.map some) (rkL Z) (by rw [hlps]; exact HSR.out) (by omega) (fun j p hj => by
                have hj2 := hps j p hj
                have := HTM.out.all j p hj2
                rw [← hmsz.2.2 j (by have := (List.getElem?_eq_some_iff.1 hj2).1; rw [HIL.out, ← HQL.out]; exact this), ← rkL_fst] at this
                exact this) hinj (by rw [hql]; exact hinv.agree) HBk.out
              rw [hql, hlps] at hcn
              have HCN := Aside0.mk hcn
              have HINV := Aside0.mk hinv
              have HINJ := Aside0.mk hinj
              have HPS := Aside0.mk hps
              have HLPS := Aside0.mk hlps
              clear hlps hps hmsz hql hinv hinj hcn hk
              go_wp2_with (fail)
              refine HCN.out.mono ?_
              rintro e wN ⟨m, q, rfl, hmw, h1, h2, h3, h4, h5, h6⟩
              have hsN : MS wC (TlK wC) (qs.map some) T wi.heap.size wN m 0 q (fun _ => 1) := ⟨h1, by rw [hT.out]; exact HINV.out.of_perm h2, h3, by rw [HLPS.out]; exact h4, fun l hl => by
                have := (QL_mem (h2.mem_iff.1 hl)).1
                rw [HIL.out] at this
                exact some_at (by rw [HQL.out]; exact this), by
                rw [h2.length_eq]
                have : (QL (rkL Z) INS.length).length ≤ INS.length := by
                  unfold QL
                  exact Nat.le_trans (List.length_filterMap_le _ _) (by rw [List.length_range]; exact Nat.le_refl _)
                have hil := HIL.out
                omega, by rw [HLPS.out, sum_ones]; rfl, fun j p hp => HTM.out.lt (HPS.out j p hp), HINJ.out, HBk.out.size, by rw [HLPS.out]; omega, h6⟩
              have hpt : ∀ i, Ps (qs.map some) i → i < wi.heap.size → ∃ cs, wi.heap[i]? = some (.cells cs 35 (0, 0)) := fun i ⟨j, hj⟩ _ => (TlK wC).blkP (HTM.out.all j i (HPS.out j i hj))
              have HTRN := Aside0.mk (R_kept HTR.out h5 (fun i hi hl => by
                obtain ⟨cs, hc⟩ := hpt i hi hl
                exact ⟨cs, 35, hc, by intro q hq; simp [kP, Kd.scalar] at hq; subst hq; decide⟩))
              have HTWN := Aside0.mk (R_kept (Kd.R_below HTWC.out HBk.out) h5 (fun i hi hl => by
                obtain ⟨cs, hc⟩ := hpt i hi hl
                exact ⟨cs, 35, hc, by intro q hq; simp [k28, Kd.iso, Kd.pair, Kd.string, Kd.int, Kd.scalar] at hq; subst hq; decide⟩))
              have hbN : Below w.heap.size w wN := by
                have h7 := HBC.out
                exact below_weaken h7 (Nat.le_refl _) ⟨h6.os, h6.tape, h6.output, h6.size, fun i hi => h6.block i (by have := h7.size; omega)⟩
              have HBN := Aside0.mk hbN
              have HMSN := Aside0.mk hsN
              obtain ⟨Bn, hBn⟩ : ∃ Bn, Aside0 (Bn = wi.heap.size) := ⟨_, ⟨rfl⟩⟩
              rw [← hBn.out] at HMSN
              clear h1 h2 h3 h4 h5 h6 hsN hpt hbN HCN HINV HTM HSR HTR HBk HTWC HINC2 hmw
              go_upto_region 34 with (fail)
              go_cut [19] (fun s19 wc => s19 = .int .i64 0 ∧ Aside0 (wN = wc))
              case first =>
                go_wp2_with (fail)
                go_meet
                case rel => exact ⟨rfl, ⟨rfl⟩⟩
              case rest =>
              obtain ⟨rfl, hwo⟩ := hcut
              have hwe := hwo.out
              subst hwe
              clear hwo
              refine (by assumption : ∀ (a : Act) (w : World), Code.wp Try.prog (Code.seq (Code.block 10 _) _) _ a w → _) _ _ ?_
              refine wp_seq_k (fun KD hKD => ?_)
              have HKD := Aside0.mk hKD
              clear hKD
              go_cut [19] (fun s19 wc => ∃ j : Nat, s19 = .int .i64 j ∧ j ≤ nw ∧ Aside0 (∃ q cnt, MS wC (TlK wC) (qs.map some) T Bn wc m j q cnt) ∧ Aside0 (kP.R 33 wc wC.heap.size (fun _ => True) (.slice At k ct) qs) ∧ Aside0 (Below w.heap.size w wc))
              case first =>
                go_wp2_with (fail)
                go_loopg [19] nw (fun kq s19 wr => ∃ j : Nat, s19 = .int .i64 j ∧ j + kq = nw ∧ Aside0 (∃ q cnt, MS wC (TlK wC) (qs.map some) T Bn wr m j q cnt) ∧ Aside0 (kP.R 33 wr wC.heap.size (fun _ => True) (.slice At k ct) qs) ∧ Aside0 (k28.R 28 wr w.heap.size (fun _ => True) (.slice Aw nw cw) T) ∧ Aside0 (Below w.heap.size w wr))
                case atStart => exact ⟨0, rfl, by omega, ⟨⟨q, _, HMSN.out⟩⟩, HTRN, HTWN, HBN⟩
                case round =>
                  clear HMSN HTRN HTWN HBN
                  obtain ⟨j, rfl, hj, HMSj, HTRj, HTWj, HBj⟩ := hrel
                  obtain ⟨wo2, hwo2⟩ : ∃ wo2, wo2 = wr := ⟨_, rfl⟩
                  subst hwo2
                  cases gk with
                  | zero =>
                    have hjn : j = nw := by omega
                    subst hjn
                    have hja : ((j : Int) < (j : Int)) = False := eq_false (by omega)
                    go_wp2_with (fail)
                    go_meet
                    case rel => exact ⟨j, rfl, Nat.le_refl _, HMSj, HTRj, HBj⟩
                  | succ kk =>
                    have hjn : j < nw := by omega
                    have hja : ((j : Int) < (nw : Int)) = True := eq_true (by omega)
                    have hjb : (j < nw) = True := eq_true hjn
                    by_cases hst : (j : Int) < stop
                    · have hsa : ((j : Int) < stop) = True := eq_true hst
                      have hj0 : ((0 : Int) ≤ (j : Int)) = True := eq_true (by omega)
                      have hwj : IntKind.i64.wrap ((j : Int) + 1) = ((j + 1 : Nat) : Int) := by rw [IntKind.wrap_i64]; omega
                      have hjT : j < T.length := by rw [HTL.out]; exact hjn
                      have hx : T[j]? = some T[j] := List.getElem?_eq_getElem hjT
                      obtain ⟨q5, cnt5, hm5⟩ := HMSj.out
                      have hnx := merged_Next_some wC (TlK wC) (qs.map some) T Bn wo2 m j q5 cnt5 hm5 T[j] hx
                      have hcw := (Kd.R_reads' HTWj.out).2.1
                      have HNX := Aside0.mk hnx
                      have HM5 := Aside0.mk hm5
                      have HTWC2 := Aside0.mk (Kd.R_reads' HTWj.out).2.2
                      obtain ⟨x, hxx⟩ : ∃ x, Aside0 (x = T[j]) := ⟨_, ⟨rfl⟩⟩
                      rw [← hxx.out] at HNX
                      clear hst hx hnx hm5 HMSj
                      go_wp2_with (fail)
                      refine HNX.out.mono ?_
                      rintro e w8 ⟨q8, cnt8, rfl, h1, h2⟩
                      have h74 : ∀ t, t ∈ 28 :: k28.E → t ≠ 74 ∧ t ≠ 76 ∧ t ≠ (TlK wC).bt := by
                        intro t ht
                        simp [k28, Kd.iso, Kd.pair, Kd.string, Kd.int, Kd.scalar] at ht
                        subst ht
                        exact ⟨by decide, by decide, (by decide : (28 : Nat) ≠ 35)⟩
                      have hp33 : ∀ t, t ∈ 33 :: kP.E → t ≠ 74 ∧ t ≠ 76 ∧ t ≠ (TlK wC).bt := by
                        intro t ht
                        simp [kP, Kd.scalar] at ht
                        subst ht
                        exact ⟨by decide, by decide, (by decide : (33 : Nat) ≠ 35)⟩
                      have HTW8 := Aside0.mk (HM5.out.row h2 HTWj.out h74)
                      have HTR8 := Aside0.mk (HM5.out.row h2 HTRj.out hp33)
                      have hwCs := HBC.out.size
                      have HB8 : Aside0 (Below w.heap.size w w8) := ⟨below_weaken HBC.out (Nat.le_refl _) ⟨h1.below.os, h1.below.tape, h1.below.output, h1.below.size, fun i hi => h1.below.block i (by omega)⟩⟩
                      have HMS8 := Aside0.mk h1
                      clear h1 h2 h74 hp33 HTWj HTRj HBj HNX HM5 HTWC2
                      unfold tellV
                      go_upto_region 37 with (fail)
                      have hbx := Box5.new w8 x
                      have HMS9 := Aside0.mk (HMS8.out.less ((Kept.refl w8 _).alloc (Obj.cells #[.string x.f0, .int .i64 x.f1, .int .i64 x.f2, .string x.f3, .string x.f4] 28)) (HMS8.out.below.alloc HMS8.out.below.size _))
                      have HTW9 := Aside0.mk (Kd.R_alloc HTW8.out (Obj.cells #[.string x.f0, .int .i64 x.f1, .int .i64 x.f2, .string x.f3, .string x.f4] 28))
                      have HTR9 := Aside0.mk (Kd.R_alloc HTR8.out (Obj.cells #[.string x.f0, .int .i64 x.f1, .int .i64 x.f2, .string x.f3, .string x.f4] 28))
                      have HB9 := Aside0.mk (below_alloc HB8.out (Obj.cells #[.string x.f0, .int .i64 x.f1, .int .i64 x.f2, .string x.f3, .string x.f4] 28))
                      generalize w8.heap.size = gp at hbx ⊢
                      generalize w8.alloc (Obj.cells #[.string x.f0, .int .i64 x.f1, .int .i64 x.f2, .string x.f3, .string x.f4] 28) = w9 at *
                      obtain ⟨b0, b1, b2, b3, b4⟩ := hbx.cells
                      have hgl := blk_lt hbx
                      have hCT := (Kd.R_reads' HTW9.out).2.2
                      obtain ⟨ad9, rfl, x0, x1, x2, x3, x4⟩ := entry_get hCT hjT
                      rw [← hxx.out] at x0 x1 x2 x3 x4
                      have hblk : (ad9.add (j * 5)).block < w9.heap.size := World.block_lt_of_cell? _ _ x0
                      have HEQ := Aside0.mk (eq_ref x)
                      clear hbx hCT HMS8 HTW8 HTR8 HB8
                      go_region_law (first | (go_simp; go_at_call 19; (with_reducible refine (incipitref12_Eq.calls x.f0 x.f1 x.f2 x.f3 x.f4 x.f0 x.f1 x.f2 x.f3 x.f4 true _ HEQ.out).mono ?_); rintro e wE ⟨rfl, hbE⟩; have HBE := Aside0.mk (below_step (below_drew1 (Below.refl w9.heap.size w9)) hbE); clear hbE))
                      all_goals
                        have HMS10 := Aside0.mk (HMS9.out.less (Kept.of_below HBE.out _) (below_weaken HMS9.out.below HMS9.out.below.size HBE.out))
                        have HTW10 := Aside0.mk (Kd.R_below HTW9.out HBE.out)
                        have HTR10 := Aside0.mk (Kd.R_below HTR9.out HBE.out)
                        have HB10 := Aside0.mk (below_step HB9.out HBE.out)
                        clear HMS9 HTW9 HTR9 HB9 b0 b1 b2 b3 b4 x0 x1 x2 x3 x4 hblk
                        go_wp2_with (fail)
                        go_roundg kk
                        case measure => omega
                        case rel => exact ⟨j + 1, rfl, by omega, ⟨⟨q8, cnt8, HMS10.out⟩⟩, HTR10, HTW10, HB10⟩
                    · have hsa : ((j : Int) < stop) = False := eq_false hst
                      clear hst
                      go_wp2_with (fail)
                      go_meet
                      case rel => exact ⟨j, rfl, by omega, HMSj, HTRj, HBj⟩
              case rest =>
                clear HMSN HTRN HTWN HBN
                obtain ⟨j, rfl, hjn, HMSj, HTRj, HBj⟩ := hcut
                obtain ⟨we, hwe⟩ : ∃ we, we = wc := ⟨_, rfl⟩
                subst hwe
                refine HKD.out _ _ ?_
                clear HKD
                obtain ⟨q5, cnt5, hm5⟩ := HMSj.out
                have HM5 := Aside0.mk hm5
                have hsm := hm5.sum
                rw [HLPS.out] at hsm
                have HSM := Aside0.mk hsm
                clear hm5 hsm HMSj
                go_wp2_with (fail)
                go_loopg [22, 23] k (fun kq s22 s23 wr => ∃ i : Nat, s22 = .int .i64 ((((List.range i).map cnt5).sum : Nat) : Int) ∧ s23 = .int .i64 i ∧ i + kq = k ∧ wr = we)
                case atStart => exact ⟨0, rfl, rfl, by omega, rfl⟩
                case round =>
                  obtain ⟨i, rfl, rfl, hi, rfl⟩ := hrel
                  obtain ⟨sm, hsm⟩ : ∃ sm, Aside0 (sm = ((List.range i).map cnt5).sum) := ⟨_, ⟨rfl⟩⟩
                  rw [← hsm.out]
                  cases gk with
                  | succ kk =>
                    have hik : i < k := by omega
                    have hia : ((i : Int) < (k : Int)) = True := eq_true (by omega)
                    have hib : (i < k) = True := eq_true hik
                    have hi0 : ((0 : Int) ≤ (i : Int)) = True := eq_true (by omega)
                    have hwi : IntKind.i64.wrap ((i : Int) + 1) = ((i + 1 : Nat) : Int) := by rw [IntKind.wrap_i64]; omega
                    have hiq : i < qs.length := by rw [HQL.out]; exact hik
                    obtain ⟨gt, rfl, hct⟩ := told_at (by have := HTRj.out; rw [← HQL.out] at this; exact this) hiq
                    have hcc := told_cell HM5.out (j := i) (p := qs[i]) (by rw [List.getElem?_map, List.getElem?_eq_getElem hiq]; rfl)
                    generalize qs[i] = pp at hct hcc
                    have h1 := sum_succ cnt5 i
                    have h2 := sum_le cnt5 (show i + 1 ≤ k by omega)
                    have h3 := HSM.out
                    rw [h1, ← hsm.out] at h2
                    have hws : IntKind.i64.wrap ((sm : Int) + (cnt5 i : Int)) = ((sm + cnt5 i : Nat) : Int) := by rw [IntKind.wrap_i64]; omega
                    have H1 := Aside0.mk h1
                    clear h1 h2 h3
                    go_wp2_with (fail)
                    go_roundg kk
                    case measure => omega
                    case rel => exact ⟨i + 1, by rw [H1.out, ← hsm.out]; rfl, rfl, by omega, rfl⟩
                  | zero =>
                    have hik : i = k := by omega
                    subst hik
                    have hia : ((i : Int) < (i : Int)) = False := eq_false (by omega)
                    have hsk : sm = i + j := by rw [hsm.out]; exact HSM.out
                    have hwk : IntKind.i64.wrap ((i : Int) + (j : Int)) = (i : Int) + (j : Int) := by rw [IntKind.wrap_i64]; omega
                    have hne : (((sm : Nat) : Int) = (i : Int) + (j : Int)) = True := eq_true (by omega)
                    by_cases hjw : j = nw
                    · subst hjw
                      have hnn := merged_Next_none wC (TlK wC) (qs.map some) T Bn wr m j q5 cnt5 HM5.out (by rw [HTL.out]; exact Nat.le_refl _)
                      have HNN := Aside0.mk hnn
                      subst hsk
                      clear hnn hi hne
                      go_wp2_with (fail)
                      refine HNN.out.mono ?_
                      rintro e w9 ⟨rfl, h1⟩
                      unfold tellV
                      have HB9 := Aside0.mk (below_step HBj.out h1)
                      clear h1
                      go_wp2_with (fail)
                      go_ret
                      exact ⟨rfl, below_alloc HB9.out _⟩
                    · have hjb : (((j : Int)) = (nw : Int)) = False := eq_false (by omega)
                      have hjc : (j = nw) = False := eq_false hjw
                      have hjd : ((j : Int) == (nw : Int)) = false := beq_eq_false_iff_ne.2 (by omega)
                      subst hsk
                      clear hjw hi hne
                      go_wp2_with (fail)
                      go_ret
                      exact ⟨rfl, HBj.out⟩
end Go.Proofs.Ytenmljkddhonmaa.MMrg
