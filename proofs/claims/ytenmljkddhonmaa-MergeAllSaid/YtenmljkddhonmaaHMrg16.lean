import Derived.Test.YtenmljkddhonmaaHMrg15
import Derived.Laws.EntriesVeiled
namespace Go.Proofs.Ytenmljkddhonmaa.MMrg
open Go.RowKit Go.Proofs.Ytenmljkddhonmaa.QMrg Go.Proofs.YtenmljkddhonmaaW.PrintWords Go.Proofs.YtenmljkddhonmaaW.PrintLast Go.Proofs.YtenmljkddhonmaaW.PrintMore
set_option linter.unusedVariables false
set_option linter.unusedSimpArgs false
theorem info68 : (Try.prog.info? 68).map (fun i => (i.zero, i.size, i.bytes)) = some (some .nilIface, 1, 16) := by kernel_rfl
/-- Lists' sources, made one behind the other. -/
structure Made (w wr : World) (LL : List (List S28)) (ps : List (Option Nat)) : Prop where
  all : ∀ j, j < ps.length → ∃ p, ps[j]? = some (some p) ∧ SlP w wr p (LL.getD j []) 0
  inj : ∀ i j p : Nat, ps[i]? = some (some p) → ps[j]? = some (some p) → i = j
theorem Made.below {w wr w' : World} {LL : List (List S28)} {ps : List (Option Nat)} (h : Made w wr LL ps) (hk : Kept wr w' (fun k => ∃ cs, wr.heap[k]? = some (.cells cs 68 (0, 0)))) : Made w w' LL ps := by
  refine ⟨fun j hj => ?_, h.inj⟩
  obtain ⟨p, hp, hs⟩ := h.all j hj
  refine ⟨p, hp, (SlK w).keepP (c := 0) hs hk (fun ⟨cs, hc⟩ => ?_)⟩
  obtain ⟨_, A, cc, hb, _⟩ := hs
  rw [hb] at hc
  injection hc with hc
  injection hc with _ hc
  cases hc
theorem Made.lt {w wr : World} {LL : List (List S28)} {ps : List (Option Nat)} (h : Made w wr LL ps) {j p : Nat} (hp : ps[j]? = some (some p)) : p < wr.heap.size ∧ SlP w wr p (LL.getD j []) 0 := by
  obtain ⟨p2, hp2, hs⟩ := h.all j (List.getElem?_eq_some_iff.1 hp).1
  rw [hp] at hp2
  injection hp2 with hp2
  injection hp2 with hp2
  subst hp2
  obtain ⟨_, A, cc, hb, _⟩ := id hs
  exact ⟨blk_lt hb, hs⟩
theorem Made.snoc {w wr w' : World} {LL : List (List S28)} {ps : List (Option Nat)} {p : Nat} (h : Made w wr LL ps) (hk : Kept wr w' (fun k => ∃ cs, wr.heap[k]? = some (.cells cs 68 (0, 0)))) (hp : wr.heap.size ≤ p) (hs : SlP w w' p (LL.getD ps.length []) 0) : Made w w' LL (ps ++ [some p]) := by
  have h2 := h.below hk
  refine ⟨fun j hj => ?_, fun i j q hi hj => ?_⟩
  · rw [List.length_append, List.length_singleton] at hj
    by_cases hjl : j < ps.length
    · obtain ⟨q, hq, hs⟩ := h2.all j hjl
      exact ⟨q, by rw [List.getElem?_append_left hjl]; exact hq, hs⟩
    · have : j = ps.length := by omega
      subst this
      exact ⟨p, by rw [List.getElem?_append_right (Nat.le_refl _), Nat.sub_self]; rfl, hs⟩
  · have key : ∀ i q, (ps ++ [some p])[i]? = some (some q) → (i < ps.length ∧ ps[i]? = some (some q)) ∨ (i = ps.length ∧ q = p) := by
      intro i q hi
      by_cases hil : i < ps.length
      · rw [List.getElem?_append_left hil] at hi
        exact .inl ⟨hil, hi⟩
      · have h3 := (List.getElem?_eq_some_iff.1 hi).1
        rw [List.length_append, List.length_singleton] at h3
        have : i = ps.length := by omega
        subst this
        rw [List.getElem?_append_right (Nat.le_refl _), Nat.sub_self] at hi
        injection hi with hi
        injection hi with hi
        exact .inr ⟨rfl, hi.symm⟩
    rcases key i q hi with ⟨a, b⟩ | ⟨a, b⟩ <;> rcases key j q hj with ⟨c, d⟩ | ⟨c, d⟩
    · exact h.inj i j q b d
    · have := (h.lt b).1; omega
    · have := (h.lt d).1; omega
    · omega
theorem sum_ones : ∀ n : Nat, ((List.range n).map (fun _ => 1)).sum = n
  | 0 => rfl
  | n + 1 => by rw [List.range_succ, List.map_append, List.sum_append, sum_ones n]; rfl
/-- What is told at i. -/
def nthE (T : List S28) (i : Nat) : S28 := (T[i]?).getD z28
theorem tell_nth (T : List S28) (i : Nat) : tellV T[i]? = .tuple #[.agg #[.string (nthE T i).f0, .int .i64 (nthE T i).f1, .int .i64 (nthE T i).f2, .string (nthE T i).f3, .string (nthE T i).f4], .bool (decide (i < T.length))] := by
  unfold nthE
  by_cases h : i < T.length
  · rw [List.getElem?_eq_getElem h, decide_eq_true h]; rfl
  · rw [List.getElem?_eq_none (by omega), decide_eq_false h]; rfl
theorem merged_Next_at (w0 : World) (K : SrcK w0) (ps : List (Option Nat)) (T : List S28) (B : Nat) (w : World) (m i : Nat) (h : ∃ q cnt, MS w0 K ps T B w m i q cnt) :
    Calls Try.prog 18 #[.pointer (some ⟨m, 0, none⟩)] w fun e w' => e = .returned (.tuple #[.agg #[.string (nthE T i).f0, .int .i64 (nthE T i).f1, .int .i64 (nthE T i).f2, .string (nthE T i).f3, .string (nthE T i).f4], .bool (decide (i < T.length))]) ∧ (i < T.length → ∃ q cnt, MS w0 K ps T B w' m (i + 1) q cnt) ∧ Kept w w' (fun k => Ps ps k ∨ ∃ cs t, w.heap[k]? = some (.cells cs t (0, 0)) ∧ (t = 74 ∨ t = 76)) ∧ Below w0.heap.size w0 w' := by
  obtain ⟨q, cnt, hS⟩ := h
  rw [← tell_nth]
  by_cases hi : i < T.length
  · refine (merged_Next_some w0 K ps T B w m i q cnt hS T[i] (List.getElem?_eq_getElem hi)).mono ?_
    rintro e w' ⟨q', cnt', rfl, h1, h2⟩
    exact ⟨by rw [List.getElem?_eq_getElem hi], fun _ => ⟨q', cnt', h1⟩, h2, h1.below⟩
  · refine (merged_Next_none w0 K ps T B w m i q cnt hS (by omega)).mono ?_
    rintro e w' ⟨rfl, h1⟩
    exact ⟨by rw [List.getElem?_eq_none (by omega)], fun h => absurd h hi, Kept.of_below h1 _, below_step hS.below h1⟩
theorem MS.less {w0 : World} {K : SrcK w0} {ps : List (Option Nat)} {T : List S28} {B : Nat} {w w' : World} {m i : Nat} {q : List L28} {cnt : Nat → Nat} (h : MS w0 K ps T B w m i q cnt) (hk : Kept w w' (fun k => ∃ cs, w.heap[k]? = some (.cells cs 28 (0, 0)))) (hb : Below w0.heap.size w0 w') : MS w0 K ps T B w' m i q cnt := by
  refine { h with mq := ?_, st := ?_, below := hb }
  · refine ⟨h.mq.1, ?_⟩
    rcases h.mq.2 with ⟨h0, A, c, hm⟩ | ⟨b, c, hbB, hc, hq⟩
    · refine .inl ⟨h0, A, c, blk_kept hm hk (fun ⟨cs, h2⟩ => ?_)⟩
      rw [hm] at h2
      injection h2 with h2
      injection h2 with _ h2
      cases h2
    · refine .inr ⟨b, c, hbB, hc, hq.kept hk (fun ⟨cs, h2⟩ => ?_) (fun ⟨cs, h2⟩ => ?_)⟩
      · rw [hq.1] at h2
        injection h2 with h2
        injection h2 with _ h2
        cases h2
      · obtain ⟨_, tail, h3⟩ := hq
        rw [h3] at h2
        injection h2 with h2
        injection h2 with _ h2
        cases h2
  · refine h.st.kept hk (fun j p hp ⟨cs, h2⟩ => ?_)
    obtain ⟨cs2, h3⟩ := h.src_blk hp
    rw [h3] at h2
    injection h2 with h2
    injection h2 with _ h2
    exact K.hbt.2.2.1 h2
theorem k28_R_ok {w : World} {base : Nat} {ok ok' : Nat → Prop} {v : Value} {xs : List S28} (h : k28.R 28 w base ok v xs) (hv : ∀ k, v.ownBlock = some k → ok' k) : k28.R 28 w base ok' v xs :=
  ⟨hv, h.2.imp_ (fun x cs hM => by rw [k28_openM hM]; exact k28_mkM _ _ _ _)⟩
theorem k28_R_far {w : World} {base gp : Nat} {v : Value} {xs : List S28} (h : k28.R 28 w base (fun _ => True) v xs) (hne : some gp ≠ v.ownBlock) (x : S28) : k28.R 28 (set5 w gp x) base (fun _ => True) v xs :=
  k28_R_ok (Kd.R_step (k28_R_ok (ok' := fun k => k ≠ gp) h (fun k hk e => hne (by rw [← e]; exact hk.symm))) (fun k hk hlt => (set5_kept w gp x).2 k hlt hk)) (fun _ _ => trivial)
set_option maxHeartbeats 8000000 in
set_option maxRecDepth 100000 in
theorem merge_All.calls (w : World) (A : Option Addr) (c : Nat) (LL : List (List S28)) (Z : List (S28 × Nat)) (hC : Kd.C (Kd.slice 28 k28) w A LL.length LL) (hn : LL.length < 900000) (hz : ∀ x ∈ Z, x.2 < LL.length) (hZ : Z.Pairwise (fun x y => x.2 ≠ y.2 → lessH x.1 x.2 y.1 y.2 = true)) (hZL : ∀ j, j < LL.length → (Z.filter (fun x => decide (x.2 = j))).map Prod.fst = LL.getD j []) (hl : Z.length < 1000000) :
    Calls Try.prog 16 #[.slice A LL.length c] w fun e w' => ∃ v, e = .returned v ∧ Kd.R k28 28 w' w.heap.size (fun _ => True) v (Z.map Prod.fst) ∧ Below w.heap.size w w' := by
  have HC := Aside0.mk hC
  have HINV := Aside0.mk (Inv_tags Z LL.length hz hZ)
  have HRK : Aside0 (∀ j, j < LL.length → (rkL Z j).map Prod.fst = LL.getD j []) := ⟨fun j hj => by rw [rkL_fst]; exact hZL j hj⟩
  obtain ⟨T, hT⟩ : ∃ T, T = Z.map Prod.fst := ⟨_, rfl⟩
  rw [← hT] at HINV ⊢
  have hTl : T.length < 1000000 := by rw [hT, List.length_map]; exact hl
  clear hC hz hZ hZL hT hl
  go_enter Try.func16, Try.ntmps16
  go_wp2_with (fail)
  go_loopg [3, 12] LL.length (fun kq s3 s12 wr => ∃ (k : Nat) (sv : Value) (ps : List (Option Nat)), s3 = sv ∧ s12 = .int .i64 k ∧ k + kq = LL.length ∧ ps.length = k ∧ Aside0 ((kS 110).R 68 wr w.heap.size (fun _ => True) sv ps) ∧ Aside0 (Made w wr LL ps) ∧ Aside0 (Below w.heap.size w wr))
  case atStart => exact ⟨0, .slice none 0 0, [], rfl, rfl, by omega, rfl, ⟨Kd.R_nil _ _ _ _ _⟩, ⟨⟨fun j hj => absurd hj (Nat.not_lt_zero _), fun i j p hi => by cases hi⟩⟩, ⟨Below.refl _ _⟩⟩
  case round =>
    obtain ⟨k, sv, ps, rfl, rfl, hk, hpl, HR, HM, HB⟩ := hrel
    obtain ⟨As, cs0, e0⟩ := Kd.R_slice HR.out
    rw [hpl] at e0
    subst e0
    cases gk with
    | succ kk =>
      have hkl : k < LL.length := by omega
      obtain ⟨ad, cs, rfl, _, hK, hcell⟩ := Kd.C_get HC.out [] (k : Int) (by omega) (by omega)
      have hgd : LL.getD ((k : Int)).toNat [] = LL.getD k [] := by congr 1
      rw [hgd] at hK
      obtain ⟨A2, c2, rfl, hl2, hC2⟩ := hK
      have hcell2 : w.cell? (ad.add k) = some (.slice A2 (LL.getD k []).length c2) := by
        have := hcell 0 _ rfl
        rw [show (k : Int).toNat * (Kd.slice 28 k28).sz + 0 = k by show (k : Int).toNat * 1 + 0 = k; omega] at this
        exact this
      have hcell3 := pw_cell_below HB.out hcell2
      have HC2 := Aside0.mk hC2
      have hia : ((k : Int) < (LL.length : Int)) = True := eq_true (by omega)
      have hib : (k < LL.length) = True := eq_true hkl
      have hi0 : ((0 : Int) ≤ (k : Int)) = True := eq_true (by omega)
      have hw1 : IntKind.i64.wrap ((k : Int) + 1) = ((k + 1 : Nat) : Int) := by rw [IntKind.wrap_i64]; omega
      generalize hnl : (LL.getD k []).length = nl at hcell3 hl2 HC2
      have HNL := Aside0.mk hnl
      clear hcell hcell2 hC2 hgd hnl
      go_wp2_with (fail)
      refine (merge_Slice.calls wr A2 nl c2).mono ?_
      rintro e w2 ⟨rfl, rfl⟩
      have HR2 := Aside0.mk (Kd.R_alloc HR.out (Obj.cells #[.slice A2 nl c2] 112))
      have HB2 := Aside0.mk (below_alloc HB.out (Obj.cells #[.slice A2 nl c2] 112))
      have hka := (Kept.refl wr (fun _ => False)).alloc (Obj.cells #[.slice A2 nl c2] 112)
      have hsl : SlP w (wr.alloc (Obj.cells #[.slice A2 nl c2] 112)) wr.heap.size (LL.getD k []) 0 := ⟨HB.out.size, A2, c2, by rw [HNL.out]; exact blk_new wr _, by rw [HNL.out]; exact hl2, by have := HC2.out; rw [← HNL.out] at this; exact this⟩
      have HM2 := Aside0.mk (HM.out.snoc (p := wr.heap.size) (hka.mono (fun _ h => h.elim)) (Nat.le_refl _) (by rw [hpl]; exact hsl))
      generalize wr.heap.size = p at HM2 ⊢
      generalize wr.alloc (Obj.cells #[.slice A2 nl c2] 112) = w2 at *
      clear hka hsl HR HB HM hcell3
      go_wp2_with (first | ((with_reducible refine gate_builtin (b := .append) (xs := #[.tmp 16, .tmp 19]) rfl ?_); at_builtin; refine Kd.R_append (kS 110) (w0 := w) (W := w2) w.heap.size rfl (.tmp 16) (.tmp 19) 31 68 .nilIface 16 rfl Try.underlying31 info68 rfl (by decide) (by omega) (.slice As k cs0) ps (some p) [.iface 110 (.pointer (some ⟨p, 0, none⟩))] (fun _ => True) (fun _ => False) rfl rfl ?aP (fun k hk => hk.elim) ?aF ?aO ?aB ?aS ?aL ?_; (case aP => exact rfl); (case aF => exact (fun _ _ => trivial)); (case aO => exact HR2.out); (case aB => exact HB2.out); (case aS => exact below_size HB2.out); (case aL => omega); intro v5 w5 ho hb5 hg5 hat5; have HR5 := Aside0.mk ho; have HB5 := Aside0.mk hb5; have HM5 := Aside0.mk (HM2.out.below (Kept.of_grown hg5 (Kept.refl _ _) (fun i hi => .inl (Kd.R_typed HR2.out i hi)))); clear ho hb5 hg5 hat5))
      go_roundg kk
      case measure => omega
      case rel => exact ⟨k + 1, v5, ps ++ [some p], rfl, rfl, by omega, by rw [List.length_append, List.length_singleton, hpl], HR5, HM5, HB5⟩
    | zero =>
      have hkn : k = LL.length := by omega
      subst hkn
      have hia : ((LL.length : Int) < (LL.length : Int)) = False := eq_false (by omega)
      have HPL := Aside0.mk hpl
      have hql : QK ps (rkL Z) ps.length = QL (rkL Z) LL.length := by
        rw [hpl]
        exact QK_QL (fun j hj => .inr (by obtain ⟨p, hp, _⟩ := HM.out.all j (by omega); exact ⟨p, hp⟩))
      have hcn := merge_New.calls w (SlK w) wr w.heap.size As cs0 ps (rkL Z) (by rw [hpl]; exact HR.out) (by omega) (fun j p hj => by
        have := (HM.out.lt hj).2
        rw [← HRK.out j (by rw [← hpl]; exact (List.getElem?_eq_some_iff.1 hj).1)] at this
        exact this) HM.out.inj (by rw [hql]; exact HINV.out.agree) HB.out
      rw [hql, hpl] at hcn
      have HCN := Aside0.mk hcn
      have HQL := Aside0.mk hql
      clear hcn hql hpl hk
      go_wp2_with (fail)
      refine HCN.out.mono ?_
      rintro e w2 ⟨m, q, rfl, hmw, h1, h2, h3, h4, h5, h6⟩
      have hms : MS w (SlK w) ps T wr.heap.size w2 m 0 q (fun _ => 1) := ⟨h1, HINV.out.of_perm h2, h3, by rw [HPL.out]; exact h4, fun l hl => by
        have := (QL_mem (h2.mem_iff.1 hl)).1
        obtain ⟨p, hp, _⟩ := HM.out.all l.at_ (by have := HPL.out; omega)
        exact ⟨p, hp⟩, by
        rw [h2.length_eq]
        have : (QL (rkL Z) LL.length).length ≤ LL.length := by
          unfold QL
          exact Nat.le_trans (List.length_filterMap_le _ _) (by rw [List.length_range]; exact Nat.le_refl _)
        omega, by rw [HPL.out, sum_ones]; rfl, fun j p hp => (HM.out.lt hp).1, HM.out.inj, HB.out.size, by have := HPL.out; omega, h6⟩
      have HMS := Aside0.mk hms
      have HB2 := Aside0.mk h6
      clear h1 h2 h3 h4 h5 h6 hms
      have hw0 := HB.out.size
      obtain ⟨Bn, hBn⟩ : ∃ Bn, Aside0 (Bn = wr.heap.size) := ⟨_, ⟨rfl⟩⟩
      rw [← hBn.out] at HMS hw0
      go_upto_region 9 with (fail)
      go_cut [7, 8, 9] (fun s7 s8 s9 wc => ∃ gp, s7 = .slice none 0 0 ∧ s8 = .pointer (some ⟨gp, 0, none⟩) ∧ s9 = .bool (decide (0 < T.length)) ∧ Aside0 (Box5 wc gp (nthE T 0)) ∧ Aside0 (0 < T.length → ∃ q cnt, MS w (SlK w) ps T Bn wc m 1 q cnt) ∧ Aside0 (Below w.heap.size w wc))
      case first =>
        go_wp2_with (fail)
        refine (merged_Next_at w (SlK w) ps T Bn w2 m 0 ⟨q, _, HMS.out⟩).mono ?_
        rintro e w3 ⟨rfl, h1, h2, h3⟩
        have H1 := Aside0.mk h1
        have H3 := Aside0.mk h3
        clear h1 h2 h3
        obtain ⟨d0, hd0⟩ : ∃ d0, Aside0 (d0 = decide (0 < T.length)) := ⟨_, ⟨rfl⟩⟩
        rw [← hd0.out]
        go_wp2_with (fail)
        go_meet
        case rel => exact ⟨w3.heap.size, rfl, rfl, by first | rfl | rw [hd0.out], ⟨Box5.new w3 (nthE T 0)⟩, ⟨fun h => by
          obtain ⟨q2, c2, hm2⟩ := H1.out h
          exact ⟨q2, c2, hm2.less ((Kept.refl w3 (fun k => ∃ cs, w3.heap[k]? = some (.cells cs 28 (0, 0)))).alloc _) (below_alloc H3.out _)⟩⟩, ⟨below_alloc H3.out _⟩⟩
      case rest =>
        clear HR HM HB HMS HB2 HCN HQL
        obtain ⟨gp, rfl, rfl, rfl, HBX, HMS, HB⟩ := hcut
        obtain ⟨wb, hwb⟩ : ∃ wb, wb = wc := ⟨_, rfl⟩
        subst hwb
        go_wp2_with (fail)
        go_loopg [7, 8, 9] T.length (fun kq s7 s8 s9 wr2 => ∃ (i gp : Nat) (Ao : Option Addr) (co : Nat), s7 = .slice Ao i co ∧ s8 = .pointer (some ⟨gp, 0, none⟩) ∧ s9 = .bool (decide (i < T.length)) ∧ i + kq = T.length ∧ Aside0 (some gp ≠ (Value.slice Ao i co).ownBlock) ∧ Aside0 (Box5 wr2 gp (nthE T i)) ∧ Aside0 (i < T.length → ∃ q cnt, MS w (SlK w) ps T Bn wr2 m (i + 1) q cnt) ∧ Aside0 (Kd.R k28 28 wr2 w.heap.size (fun _ => True) (.slice Ao i co) (T.take i)) ∧ Aside0 (Below w.heap.size w wr2))
        case atStart => exact ⟨0, gp, none, 0, rfl, rfl, rfl, by omega, ⟨by simp [Value.ownBlock]⟩, HBX, HMS, ⟨Kd.R_nil _ _ _ _ _⟩, HB⟩
        case round =>
          clear HBX HMS HB
          obtain ⟨i, gp, Ao, co, rfl, rfl, rfl, hi, HNE, HBX, HMS, HO, HB⟩ := hrel
          cases gk with
          | zero =>
            have hit : i = T.length := by omega
            subst hit
            have hd : decide (T.length < T.length) = false := decide_eq_false (by omega)
            rw [hd]
            go_wp2_with (fail)
            go_ret
            exact ⟨_, rfl, by have := HO.out; rw [List.take_length] at this; exact this, HB.out⟩
          | succ kk =>
            have hit : i < T.length := by omega
            have hd : decide (i < T.length) = true := decide_eq_true hit
            rw [hd]
            clear hd
            have hx : T[i]? = some (nthE T i) := by unfold nthE; rw [List.getElem?_eq_getElem hit]; rfl
            have htk : T.take (i + 1) = T.take i ++ [nthE T i] := by rw [List.take_add_one, hx]; rfl
            have HTK := Aside0.mk htk
            obtain ⟨b0, b1, b2, b3, b4⟩ := HBX.out.cells
            have hll : (T.take i).length = i := by rw [List.length_take]; omega
            have HLL := Aside0.mk hll
            generalize nthE T i = x at *
            clear hx htk hll
            obtain ⟨q, cnt, hms⟩ := HMS.out hit
            have HMS := Aside0.mk hms
            clear hms
            obtain ⟨wo, hwo⟩ : ∃ wo, wo = wr := ⟨_, rfl⟩
            subst hwo
            go_upto_region 13 with (first | ((with_reducible refine gate_builtin (b := .append) (xs := #[.tmp 35, .tmp 37]) rfl ?_); at_builtin; refine Kd.R_append k28 (w0 := w) (W := wo) w.heap.size rfl (.tmp 35) (.tmp 37) 24 28 (.agg #[.string ⟨#[]⟩, .int .i64 0, .int .i64 0, .string ⟨#[]⟩, .string ⟨#[]⟩]) 64 rfl Try.underlying24 info28 rfl (by decide) (by omega) (.slice Ao i co) (T.take i) x [.string x.f0, .int .i64 x.f1, .int .i64 x.f2, .string x.f3, .string x.f4] (fun _ => True) (fun _ => False) rfl rfl ?aP (fun k hk => hk.elim) ?aF ?aO ?aB ?aS ?aL ?_; (case aP => exact k28_mkM _ _ _ _); (case aF => exact (fun _ _ => trivial)); (case aO => exact HO.out); (case aB => exact HB.out); (case aS => exact below_size HB.out); (case aL => (rw [HLL.out]; omega)); intro v5 w5 ho hb5 hg5 hat5; have HO5 := Aside0.mk ho; have HB5 := Aside0.mk hb5; have HG5 := Aside0.mk hg5; clear ho hb5 hg5 hat5))
            obtain ⟨A6, c6, e6⟩ := Kd.R_slice HO5.out
            have hl6 : (T.take i ++ [x]).length = i + 1 := by rw [List.length_append, HLL.out]; rfl
            rw [hl6] at e6
            subst e6
            have HK5 := Aside0.mk (Kept.of_grown (S := fun k => ∃ cs, wo.heap[k]? = some (.cells cs 28 (0, 0))) HG5.out (Kept.refl wo _) (fun k hk => .inl (Kd.R_typed HO.out k hk)))
            have hbx5 : Box5 w5 gp x := blk_grown HBX.out HG5.out HNE.out
            have HMS5 := Aside0.mk (HMS.out.less HK5.out HB5.out)
            obtain ⟨b0, b1, b2, b3, b4⟩ := hbx5.cells
            clear HBX HMS HO HG5 HK5 HNE HB hbx5 hl6
            go_upto_region 11 with (fail)
            have HB6 := Aside0.mk (below_alloc HB5.out (Obj.cells #[.string x.f0, .int .i64 x.f1, .int .i64 x.f2, .string x.f3, .string x.f4] 28))
            have HO6 := Aside0.mk (Kd.R_alloc HO5.out (Obj.cells #[.string x.f0, .int .i64 x.f1, .int .i64 x.f2, .string x.f3, .string x.f4] 28))
            have HMS6 := Aside0.mk (HMS5.out.less ((Kept.refl w5 _).alloc (Obj.cells #[.string x.f0, .int .i64 x.f1, .int .i64 x.f2, .string x.f3, .string x.f4] 28)) HB6.out)
            have hbx6 := Box5.new w5 x
            have HNE6 : Aside0 (some w5.heap.size ≠ (Value.slice A6 (i + 1) c6).ownBlock) := ⟨fun h => by have := Kd.R_lt HO5.out w5.heap.size h.symm; omega⟩
            have hg6 : w.heap.size ≤ w5.heap.size := below_size HB5.out
            generalize w5.heap.size = g6 at hg6 hbx6 HNE6 ⊢
            generalize w5.alloc (Obj.cells #[.string x.f0, .int .i64 x.f1, .int .i64 x.f2, .string x.f3, .string x.f4] 28) = w6 at *
            have HBX6 := Aside0.mk hbx6
            clear HO5 HB5 HMS5 hbx6 b0 b1 b2 b3 b4
            go_wp2_with (fail)
            refine (merged_Next_at w (SlK w) ps T Bn w6 m (i + 1) ⟨q, cnt, HMS6.out⟩).mono ?_
            rintro e w7 ⟨rfl, h1, h2, h3⟩
            have H1 := Aside0.mk h1
            have HB7 := Aside0.mk h3
            have HO7 := Aside0.mk (HMS6.out.row h2 HO6.out (by intro t ht; simp [k28, Kd.iso, Kd.pair, Kd.string, Kd.int, Kd.scalar] at ht; subst ht; exact ⟨by decide, by decide, (by decide : (28 : Nat) ≠ 112)⟩))
            have hbx7 := HMS6.out.box h2 HBX6.out
            obtain ⟨c0, c1, c2, c3, c4⟩ := hbx7.cells
            obtain ⟨f0, f1, f2, f3, f4⟩ := hbx7.frozen
            have HBX7 := Aside0.mk hbx7
            obtain ⟨d0, hd0⟩ : ∃ d0, Aside0 (d0 = decide (i + 1 < T.length)) := ⟨_, ⟨rfl⟩⟩
            rw [← hd0.out]
            obtain ⟨y, hy⟩ : ∃ y, Aside0 (y = nthE T (i + 1)) := ⟨_, ⟨rfl⟩⟩
            rw [← hy.out]
            clear h1 h2 h3 HMS6 HO6 HB6 HBX6 hbx7
            go_wp2_with (fail)
            go_roundg kk
            case measure => omega
            case rel => exact ⟨i + 1, g6, A6, c6, rfl, rfl, by rw [← hd0.out], by omega, HNE6, ⟨by rw [← hy.out]; exact set5_blk HBX7.out y⟩, ⟨fun h => by
              obtain ⟨q2, cnt2, hm2⟩ := H1.out h
              exact ⟨q2, cnt2, hm2.less ((set5_kept w7 g6 y).mono (fun k hk => by subst hk; exact ⟨_, HBX7.out⟩)) (set5_below HB7.out hg6 y)⟩⟩, ⟨by rw [HTK.out]; exact k28_R_far HO7.out HNE6.out y⟩, ⟨set5_below HB7.out hg6 y⟩⟩
end Go.Proofs.Ytenmljkddhonmaa.MMrg
