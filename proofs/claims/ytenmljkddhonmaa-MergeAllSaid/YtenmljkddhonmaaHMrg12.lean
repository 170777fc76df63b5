import Derived.Test.YtenmljkddhonmaaHMrg11
import Derived.Laws.EntriesVeiled
namespace Go.Proofs.Ytenmljkddhonmaa.MMrg
open Go.RowKit Go.Proofs.Ytenmljkddhonmaa.QMrg Go.Proofs.YtenmljkddhonmaaW.PrintWords Go.Proofs.YtenmljkddhonmaaW.PrintLast Go.Proofs.YtenmljkddhonmaaW.PrintMore
set_option linter.unusedVariables false
set_option linter.unusedSimpArgs false
theorem eInit : ∀ args w, (callFunc 37 args).run Try.prog w = .ok (.enter 37 args) w := enters_of Try.func37 (by kernel_rfl) rfl
/-- A queue that is none is in order. -/
theorem heap_Init_nil.calls (w : World) (m c : Nat) (A : Option Addr) (hm : w.cell? ⟨m, 0, none⟩ = some (.slice A 0 c)) :
    Calls Try.prog 37 #[.iface 78 (.pointer (some ⟨m, 0, none⟩))] w fun e w' => e = .returned (.tuple #[]) ∧ w' = w := by
  have mL := mLen hm
  have eL := eLen
  have hw1 : IntKind.i64.wrap (Int.tdiv 0 2) = 0 := by decide
  have hw2 : IntKind.i64.wrap (0 - 1) = -1 := by decide
  clear hm
  go_enter Try.func37, Try.ntmps37
  go_wp2_with (fail)
  refine (queue_Len.calls w _ _ _).mono ?_
  rintro e w' ⟨rfl, rfl⟩
  clear mL
  go_wp2_with (fail)
  go_loopg [3] 1 (fun kq s3 wr => s3 = .int .i64 (-1) ∧ 0 < kq ∧ wr = w')
  case atStart => exact ⟨rfl, by omega, rfl⟩
  case round =>
    obtain ⟨rfl, hkq, rfl⟩ := hrel
    go_wp2_with (fail)
    go_end0
    exact ⟨rfl, rfl⟩
/-- Any queue is put in order. -/
theorem heap_Init_any.calls (w0 w : World) (B : Nat) (hBB : w0.heap.size ≤ B) (ask : Nat → Value) (m : Nat) (q : List L28) (hq : MQ B w ask m q) (hql : q.length < 1000000) (ha : Agree lessH q) (hat : ∀ l ∈ q, l.at_ < 1000000) (hB : Below w0.heap.size w0 w) :
    Calls Try.prog 37 #[.iface 78 (.pointer (some ⟨m, 0, none⟩))] w fun e w' => ∃ q', e = .returned (.tuple #[]) ∧ MQ B w' ask m q' ∧ q'.Perm q ∧ HeapFrom (kOf Ln.r q') q'.length 0 ∧ Kept w w' (fun k => B ≤ k ∧ ∃ cs, w.heap[k]? = some (.cells cs 76 (0, 0))) ∧ Below w0.heap.size w0 w' := by
  obtain ⟨hm0, hq⟩ := hq
  rcases hq with ⟨rfl, A, c, hm⟩ | ⟨b, c, hb0, hc, hq⟩
  · refine (heap_Init_nil.calls w m c A (by rw [blk_cell hm 0]; rfl)).mono ?_
    rintro e w' ⟨rfl, rfl⟩
    exact ⟨[], rfl, ⟨hm0, .inl ⟨rfl, A, c, hm⟩⟩, List.Perm.refl _, fun p c hp hc _ => absurd hc (Nat.not_lt_zero _), Kept.refl _ _, hB⟩
  · refine (heap_Init.calls w0 w ask m b c q hq hql ha hat hB (by omega)).mono ?_
    rintro e w' ⟨q', rfl, h1, h2, h3, h4, h5⟩
    obtain ⟨_, tail, hbk⟩ := hq
    exact ⟨q', rfl, ⟨hm0, .inr ⟨b, c, hb0, by rw [h2.length_eq]; exact hc, h1⟩⟩, h2, h3, h4.mono (fun k hk => by subst hk; exact ⟨hb0, _, hbk⟩), h5⟩
theorem srcs_at {T : Nat} {w : World} {base : Nat} {ok : Nat → Prop} {A : Option Addr} {c : Nat} {ps : List (Option Nat)} (h : (kS T).R 68 w base ok (.slice A ps.length c) ps) {k : Nat} (hk : k < ps.length) : ∃ g, A = some ⟨g, 0, none⟩ ∧ w.cell? ⟨g, k, none⟩ = some (askV T ps k) := by
  obtain ⟨g, cap, he, _, _, _⟩ := Kd.R_form h (by omega)
  injection he with h1 h2 h3
  subst h1
  refine ⟨g, rfl, ?_⟩
  obtain ⟨A', c', e, hle, hC⟩ := Kd.R_reads h
  injection e with e1 e2 e3
  subst e1
  have hr : ReadsOf (srcV T) none w (some ⟨g, 0, none⟩) ps.length ps := Kd.reads_of_C hC
  obtain ⟨ad, ea, hc⟩ := hr.at_ (k : Int) (by omega) (by omega)
  injection ea with ea
  subst ea
  rw [show ((k : Int)).toNat = k by omega, add_plain] at hc
  rw [hc]
  unfold askV rdOf
  simp
theorem kH_sz (ask : Nat → Value) : 0 < (kH ask).sz := by show 0 < 7; decide
set_option maxHeartbeats 8000000 in
set_option maxRecDepth 100000 in
theorem merge_New.calls (w0 : World) (K : SrcK w0) (w : World) (base : Nat) (A : Option Addr) (c : Nat) (ps : List (Option Nat)) (rl : Nat → List (S28 × Nat)) (hps : (kS K.T).R 68 w base (fun _ => True) (.slice A ps.length c) ps) (hn : ps.length < 999999)
    (hsp : ∀ j p : Nat, ps[j]? = some (some p) → K.SP w p ((rl j).map Prod.fst) 0) (hinj : ∀ i j p : Nat, ps[i]? = some (some p) → ps[j]? = some (some p) → i = j) (ha : Agree lessH (QK ps rl ps.length)) (hB : Below w0.heap.size w0 w) :
    Calls Try.prog 17 #[.slice A ps.length c] w fun e w' => ∃ m q, e = .returned (.pointer (some ⟨m, 0, none⟩)) ∧ w.heap.size ≤ m ∧ MQ w.heap.size w' (askV K.T ps) m q ∧ q.Perm (QK ps rl ps.length) ∧ HeapFrom (kOf Ln.r q) q.length 0 ∧ K.St ps w' q (fun _ => 1) ps.length ∧ Kept w w' (Ps ps) ∧ Below w0.heap.size w0 w' := by
  have HPS := Aside0.mk hps
  have HSP := Aside0.mk hsp
  have HSPw := Aside0.mk hsp
  have HINJ := Aside0.mk hinj
  have HA := Aside0.mk ha
  have HB := Aside0.mk hB
  have eI := eInit
  clear hps hsp hinj ha hB
  go_enter Try.func17, Try.ntmps17
  go_upto_region 2 with (fail)
  have HB1 := Aside0.mk (HB.out.alloc HB.out.size (Obj.cells #[.slice none 0 0] 74))
  have HK1 : Aside0 (Kept w (w.alloc (Obj.cells #[.slice none 0 0] 74)) (Ps ps)) := ⟨(Kept.refl _ _).below (below_alloc (Below.refl _ _) _)⟩
  have HPS1 := Aside0.mk (Kd.R_alloc HPS.out (Obj.cells #[.slice none 0 0] 74))
  have hbx := blk_new w (Obj.cells #[.slice none 0 0] 74)
  have hsz := HB.out.size
  obtain ⟨m, hm⟩ : ∃ m, m = w.heap.size := ⟨_, rfl⟩
  rw [← hm] at hbx ⊢
  have hm0 : w0.heap.size ≤ m := by omega
  have hmw : w.heap.size ≤ m := by omega
  have HMP : Aside0 (¬ Ps ps m) := ⟨fun ⟨j, hj⟩ => by
    obtain ⟨cs, hc⟩ := K.blkP (HSP.out j m hj)
    have := blk_lt hc
    omega⟩
  have HSP1 : Aside0 (∀ j p : Nat, ps[j]? = some (some p) → K.SP (w.alloc (Obj.cells #[.slice none 0 0] 74)) p ((rl j).map Prod.fst) 0) := ⟨fun j p hj => K.keepP (S := fun _ => False) (HSP.out j p hj) ((Kept.refl _ _).below (below_alloc (Below.refl _ _) _)) (fun h => h)⟩
  generalize w.alloc (Obj.cells #[.slice none 0 0] 74) = w1 at *
  have HM1 := Aside0.mk hbx
  clear hbx hm HB HPS HSP
  go_wp2_with (fail)
  go_loopg [13] ps.length (fun kq s13 wr => ∃ (k : Nat) (qv : Value), s13 = .int .i64 k ∧ k + kq = ps.length ∧ Aside0 (wr.heap[m]? = some (.cells #[qv] 74 (0, 0))) ∧ Aside0 ((kH (askV K.T ps)).R 76 wr w.heap.size (fun _ => True) qv (QK ps rl k)) ∧ Aside0 ((kS K.T).R 68 wr base (fun _ => True) (.slice A ps.length c) ps) ∧ Aside0 (K.St ps wr (QK ps rl k) (fun _ => 1) k) ∧ Aside0 (∀ j p : Nat, k ≤ j → ps[j]? = some (some p) → K.SP wr p ((rl j).map Prod.fst) 0) ∧ Aside0 (Below w0.heap.size w0 wr) ∧ Aside0 (Kept w wr (Ps ps)))
  case atStart => exact ⟨0, .slice none 0 0, rfl, by omega, HM1, ⟨Kd.R_nil _ _ _ _ _⟩, HPS1, ⟨fun j p hj => absurd hj (Nat.not_lt_zero _)⟩, ⟨fun j p _ hj => HSP1.out j p hj⟩, HB1, HK1⟩
  case round =>
    clear HB1 HK1 HPS1 HSP1 HM1
    obtain ⟨k, qv, rfl, hk, HM, HQ, HPS, HST, HSP, HB, HK⟩ := hrel
    cases gk with
    | zero =>
      have hkn : k = ps.length := by omega
      subst hkn
      have hia : ((ps.length : Int) < (ps.length : Int)) = False := eq_false (by omega)
      have HMQ := Aside0.mk (QM_of_R hmw HM.out HQ.out)
      have hql : (QK ps rl ps.length).length ≤ ps.length := by
        unfold QK
        exact Nat.le_trans (List.length_filterMap_le _ _) (by rw [List.length_range]; exact Nat.le_refl _)
      have hci := heap_Init_any.calls w0 wr w.heap.size hsz (askV K.T ps) m (QK ps rl ps.length) HMQ.out (by omega) HA.out (fun l hl => by have := (QK_at hl).1; omega) HB.out
      have HCI := Aside0.mk hci
      clear hci hql
      go_wp2_with (fail)
      refine HCI.out.mono ?_
      rintro e w2 ⟨q, rfl, h1, h2, h3, h4, h5⟩
      have H1 := Aside0.mk h1
      have H2 := Aside0.mk h2
      have H3 := Aside0.mk h3
      have H4 := Aside0.mk h4
      have H5 := Aside0.mk h5
      clear h1 h2 h3 h4 h5
      go_wp2_with (fail)
      go_ret
      refine ⟨m, q, rfl, hmw, H1.out, H2.out, H3.out, ?_, HK.out.then_ H4.out (fun k hk => .inr hk.1), H5.out⟩
      intro j p hj hp
      obtain ⟨g1, g2⟩ := HST.out j p hj hp
      have hnp : ¬ (w.heap.size ≤ p ∧ ∃ cs, wr.heap[p]? = some (.cells cs 76 (0, 0))) := fun ⟨hge, _⟩ => by
        obtain ⟨cs, hc⟩ := K.blkP (HSPw.out j p hp)
        have := blk_lt hc
        omega
      exact ⟨fun l hl ha => K.keepP (g1 l (H2.out.mem_iff.1 hl) ha) H4.out hnp, fun hn => K.keepD (g2 (fun l hl => hn l (H2.out.mem_iff.2 hl))) H4.out hnp⟩
    | succ kk =>
      have hkl : k < ps.length := by omega
      have hia : ((k : Int) < (ps.length : Int)) = True := eq_true (by omega)
      have hib : (k < ps.length) = True := eq_true hkl
      have hi0 : ((0 : Int) ≤ (k : Int)) = True := eq_true (by omega)
      have hw1 : IntKind.i64.wrap ((k : Int) + 1) = ((k + 1 : Nat) : Int) := by rw [IntKind.wrap_i64]; omega
      obtain ⟨g, rfl, hcell⟩ := srcs_at HPS.out hkl
      have hgo : ps[k]? = some (ps.getD k none) := by simp [List.getD_eq_getElem?_getD, List.getElem?_eq_getElem hkl]
      unfold askV at hcell
      cases ho : ps.getD k none with
      | none =>
        rw [ho] at hcell hgo
        have hcell2 : wr.cell? ⟨g, k, none⟩ = some .nilIface := hcell
        have HQS : Aside0 (QK ps rl (k + 1) = QK ps rl k) := ⟨by
          rw [QK_succ]
          have : mkL ps rl k = none := by unfold mkL; rw [ho]
          rw [this]; simp⟩
        have HGO := Aside0.mk hgo
        clear hcell ho hgo
        go_wp2_with (fail)
        go_roundg kk
        case measure => omega
        case rel => exact ⟨k + 1, qv, rfl, by omega, HM, ⟨by rw [HQS.out]; exact HQ.out⟩, HPS, ⟨fun j p hj hp => by
          rw [HQS.out]
          by_cases hjk : j = k
          · subst hjk; rw [HGO.out] at hp; injection hp with hp; cases hp
          · exact HST.out j p (by omega) hp⟩, ⟨fun j p hj hp => HSP.out j p (by omega) hp⟩, HB, HK⟩
      | some p =>
        rw [ho] at hcell hgo
        have hcell2 : wr.cell? ⟨g, k, none⟩ = some (.iface K.T (.pointer (some ⟨p, 0, none⟩))) := hcell
        have HGO := Aside0.mk hgo
        have HO := Aside0.mk ho
        have hmet := K.met ⟨p, 0, none⟩
        have hent := K.ent
        have hsp := HSP.out k p (Nat.le_refl _) hgo
        obtain ⟨pcs, hpb⟩ := K.blkP hsp
        have HPB := Aside0.mk hpb
        have hpm : ¬ m = p := fun e => HMP.out ⟨k, by rw [e]; exact hgo⟩
        have HOTH : Aside0 (∀ j p2 : Nat, ps[j]? = some (some p2) → j ≠ k → ¬ p2 = p) := ⟨fun j p2 hj hne e => hne (HINJ.out j k p (by rw [← e]; exact hj) hgo)⟩
        have hat := fun l hl => (QK_at (l := l) (ps := ps) (rl := rl) (k := k) hl).1
        have HAT := Aside0.mk hat
        clear hcell ho hgo hpb hat
        cases hr : rl k with
        | nil =>
          rw [hr] at hsp
          have hci := K.nil wr p 0 hsp HB.out
          have HCI := Aside0.mk hci
          have HQS : Aside0 (QK ps rl (k + 1) = QK ps rl k) := ⟨by
            rw [QK_succ]
            have : mkL ps rl k = none := by unfold mkL; rw [HO.out, hr]
            rw [this]; simp⟩
          clear hsp hr hci
          go_wp2_with (fail)
          refine HCI.out.mono ?_
          rintro e w2 ⟨rfl, h1, h2, h3⟩
          have H1 := Aside0.mk h1
          have H3 := Aside0.mk h3
          have HM2 := Aside0.mk (blk_kept HM.out h2 hpm)
          have HQ2 := Aside0.mk (R_kept HQ.out h2 (fun k hk _ => by subst hk; exact ⟨_, _, HPB.out, by intro q hq; have := K.hbt; simp [kH, Kd.iso, Kd.pair, Kd.string, Kd.int, Kd.scalar] at hq; subst hq; omega⟩))
          have HPS2 := Aside0.mk (R_kept HPS.out h2 (fun k hk _ => by subst hk; exact ⟨_, _, HPB.out, by intro q hq; have := K.hbt; simp [kS, Kd.scalar] at hq; subst hq; omega⟩))
          have HST2 : Aside0 (K.St ps w2 (QK ps rl (k + 1)) (fun _ => 1) (k + 1)) := ⟨fun j p2 hj hp => by
            rw [HQS.out]
            by_cases hjk : j = k
            · subst hjk
              have hpp : p2 = p := by have := HGO.out; rw [hp] at this; injection this with this; injection this
              subst hpp
              exact ⟨fun l hl ha => absurd (HAT.out l hl) (by omega), fun _ => h1⟩
            · obtain ⟨g1, g2⟩ := HST.out j p2 (by omega) hp
              exact ⟨fun l hl ha => K.keepP (g1 l hl ha) h2 (HOTH.out j p2 hp hjk), fun hn => K.keepD (g2 hn) h2 (HOTH.out j p2 hp hjk)⟩⟩
          have HSP2 : Aside0 (∀ j p : Nat, k + 1 ≤ j → ps[j]? = some (some p) → K.SP w2 p ((rl j).map Prod.fst) 0) := ⟨fun j p2 hj hp => K.keepP (HSP.out j p2 (by omega) hp) h2 (HOTH.out j p2 hp (by omega))⟩
          have HK2 := Aside0.mk (HK.out.then_ h2 (fun i hi => .inl ⟨k, by rw [hi]; exact HGO.out⟩))
          clear h1 h2 h3 HM HQ HPS HST HSP HB HK HPB hcell2
          unfold tellV
          go_wp2_with (fail)
          have hka : Kept w2 (w2.alloc (Obj.cells #[.string ⟨#[]⟩, .int .i64 0, .int .i64 0, .string ⟨#[]⟩, .string ⟨#[]⟩] 28)) (fun _ => False) := (Kept.refl _ _).alloc _
          go_roundg kk
          case measure => omega
          case rel => exact ⟨k + 1, qv, rfl, by omega, ⟨blk_alloc HM2.out _⟩, ⟨by rw [HQS.out]; exact Kd.R_alloc HQ2.out _⟩, ⟨Kd.R_alloc HPS2.out _⟩, ⟨HST2.out.kept hka (fun _ _ _ h => h)⟩, ⟨fun j p hj hp => K.keepP (HSP2.out j p hj hp) hka (fun h => h)⟩, ⟨H3.out.alloc H3.out.size _⟩, ⟨HK2.out.alloc _⟩⟩
        | cons er t =>
          obtain ⟨x, r⟩ := er
          rw [hr] at hsp
          have hci := K.cons wr p 0 x (t.map Prod.fst) hsp HB.out
          have HCI := Aside0.mk hci
          have HQS : Aside0 (QK ps rl (k + 1) = QK ps rl k ++ [⟨x, r, k, t⟩]) := ⟨by
            rw [QK_succ]
            have : mkL ps rl k = some ⟨x, r, k, t⟩ := by unfold mkL; rw [HO.out, hr]
            rw [this]; rfl⟩
          clear hsp hr hci
          go_wp2_with (fail)
          refine HCI.out.mono ?_
          rintro e w2 ⟨rfl, h1, h2, h3⟩
          have hka : Kept w2 (w2.alloc (Obj.cells #[.string x.f0, .int .i64 x.f1, .int .i64 x.f2, .string x.f3, .string x.f4] 28)) (fun _ => False) := (Kept.refl _ _).alloc _
          have H1 := Aside0.mk (K.keepP h1 hka (fun h => h))
          have HB3 := Aside0.mk (h3.alloc h3.size (Obj.cells #[.string x.f0, .int .i64 x.f1, .int .i64 x.f2, .string x.f3, .string x.f4] 28))
          have HM3 := Aside0.mk (blk_kept (blk_kept HM.out h2 hpm) hka (fun h => h))
          have HQ3 := Aside0.mk (Kd.R_alloc (R_kept HQ.out h2 (fun k hk _ => by subst hk; exact ⟨_, _, HPB.out, by intro q hq; have := K.hbt; simp [kH, Kd.iso, Kd.pair, Kd.string, Kd.int, Kd.scalar] at hq; subst hq; omega⟩)) (Obj.cells #[.string x.f0, .int .i64 x.f1, .int .i64 x.f2, .string x.f3, .string x.f4] 28))
          have HPS3 := Aside0.mk (Kd.R_alloc (R_kept HPS.out h2 (fun k hk _ => by subst hk; exact ⟨_, _, HPB.out, by intro q hq; have := K.hbt; simp [kS, Kd.scalar] at hq; subst hq; omega⟩)) (Obj.cells #[.string x.f0, .int .i64 x.f1, .int .i64 x.f2, .string x.f3, .string x.f4] 28))
          have HST3 : Aside0 (∀ (j p2 : Nat), j < k → ps[j]? = some (some p2) → (∀ l ∈ QK ps rl k, l.at_ = j → K.SP (w2.alloc (Obj.cells #[.string x.f0, .int .i64 x.f1, .int .i64 x.f2, .string x.f3, .string x.f4] 28)) p2 (l.rest.map Prod.fst) 1) ∧ ((∀ l ∈ QK ps rl k, l.at_ ≠ j) → K.SD (w2.alloc (Obj.cells #[.string x.f0, .int .i64 x.f1, .int .i64 x.f2, .string x.f3, .string x.f4] 28)) p2 1)) := ⟨fun j p2 hj hp => by
            obtain ⟨g1, g2⟩ := HST.out j p2 hj hp
            exact ⟨fun l hl ha => K.keepP (K.keepP (g1 l hl ha) h2 (HOTH.out j p2 hp (by omega))) hka (fun h => h), fun hn => K.keepD (K.keepD (g2 hn) h2 (HOTH.out j p2 hp (by omega))) hka (fun h => h)⟩⟩
          have HSP3 : Aside0 (∀ j p : Nat, k + 1 ≤ j → ps[j]? = some (some p) → K.SP (w2.alloc (Obj.cells #[.string x.f0, .int .i64 x.f1, .int .i64 x.f2, .string x.f3, .string x.f4] 28)) p ((rl j).map Prod.fst) 0) := ⟨fun j p2 hj hp => K.keepP (K.keepP (HSP.out j p2 (by omega) hp) h2 (HOTH.out j p2 hp (by omega))) hka (fun h => h)⟩
          have HK3 := Aside0.mk ((HK.out.then_ h2 (fun i hi => .inl ⟨k, by rw [hi]; exact HGO.out⟩)).alloc (Obj.cells #[.string x.f0, .int .i64 x.f1, .int .i64 x.f2, .string x.f3, .string x.f4] 28))
          have hbx := Box5.new w2 x
          clear h1 h2 h3 HM HQ HPS HST HSP HB HK HPB hcell2 hka
          unfold tellV
          go_upto_region 8 with (fail)
          obtain ⟨gp, hgp⟩ : ∃ gp, gp = w2.heap.size := ⟨_, rfl⟩
          rw [← hgp] at hbx ⊢
          generalize w2.alloc (Obj.cells #[.string x.f0, .int .i64 x.f1, .int .i64 x.f2, .string x.f3, .string x.f4] 28) = w3 at *
          obtain ⟨c0, c1, c2, c3, c4⟩ := hbx.cells
          have hcm : w3.cell? ⟨m, 0, none⟩ = some qv := by rw [blk_cell HM3.out 0]; rfl
          have hml := blk_lt HM3.out
          have hgl := blk_lt hbx
          have hQl : (QK ps rl k).length ≤ k := by
            unfold QK
            exact Nat.le_trans (List.length_filterMap_le _ _) (by rw [List.length_range]; exact Nat.le_refl _)
          have HQL := Aside0.mk hQl
          have hwl : w.heap.size ≤ w3.heap.size := by have := HK3.out.1; omega
          clear hbx hgp hQl hmet hent
          go_wp2_with (fail)
          go_region_law (first
            | (refine Kd.R_append_step (kH (askV K.T ps)) (w0 := w3.drew) (W := w3.drew) w.heap.size (by rfl) (.tmp 33) (.tmp 38) 72 76 (.agg #[.string ⟨#[]⟩, .int .i64 0, .int .i64 0, .string ⟨#[]⟩, .string ⟨#[]⟩, .int .i64 0, .nilFunc]) 80 rfl Try.underlying72 info76 rfl (kH_sz _) (by omega) qv (QK ps rl k) ⟨x, r, k, t⟩ [.string x.f0, .int .i64 x.f1, .int .i64 x.f2, .string x.f3, .string x.f4, .int .i64 (k : Int), .func (Fn.method "Next") #[.iface K.T (.pointer (some ⟨p, 0, none⟩))] #[]] (fun _ => True) (fun _ => False) (by rfl) (by rfl) ?aP (fun k hk => hk.elim) ?aF ?aO ?aB ?aS ?aL ?_; (case aP => exact (by have h := kH_mkM (askV K.T ps) w3.drew w.heap.size (fun _ => False) ⟨x, r, k, t⟩; unfold hc askV at h; rw [HO.out] at h; exact h)); (case aF => exact (fun _ _ => trivial)); (case aO => exact Kd.R_drew HQ3.out); (case aB => exact Below.refl _ _); (case aS => exact hwl); (case aL => have := HQL.out; omega); intro v4 w4 ho hb4 hg4 hat4; obtain ⟨A4, c4_, e4⟩ := Kd.R_slice ho; obtain ⟨nl, hnl⟩ : ∃ nl, Aside0 (nl = (QK ps rl k ++ [(⟨x, r, k, t⟩ : L28)]).length) := ⟨_, ⟨rfl⟩⟩; rw [← hnl.out] at e4; subst e4; have HQ4 := Aside0.mk ho; have HG4 := Aside0.mk hg4; have HB4 := Aside0.mk hb4; clear ho hb4 hg4 hat4; have HM4 := Aside0.mk (blk_grown (blk_drew HM3.out) HG4.out (Kd.R_ne (Kd.R_drew HQ3.out) (blk_drew HM3.out) (by decide))); have hcm4 := (blk_cell HM4.out 0).trans rfl; have hfm4 := blk_frozen HM4.out 0))
          all_goals
            have HM5 := Aside0.mk (blk_set HM4.out 0 (.slice A4 nl c4_))
            have HK5 := Aside0.mk (Kept.setCell (S := fun k => k = m) (p := ⟨m, 0, none⟩) (Kept.refl w4 _) (.inl rfl) (.slice A4 nl c4_))
            have HQ5 := Aside0.mk (R_kept HQ4.out HK5.out (fun k hk _ => by subst hk; exact ⟨_, _, HM4.out, by intro q hq; simp [kH, Kd.iso, Kd.pair, Kd.string, Kd.int, Kd.scalar] at hq; subst hq; decide⟩))
            have hk34 : Kept w3 w4 (fun i => i = m ∨ some i = qv.ownBlock) := Kept.of_grown HG4.out (Kept.refl w3 _) (fun k hk => .inl (.inr hk.symm))
            have HK45 := Aside0.mk (hk34.then_ HK5.out (fun k hk => .inl (.inl hk)))
            have hps : ∀ j p2 : Nat, ps[j]? = some (some p2) → p2 < w.heap.size := fun j p2 hj => by
              obtain ⟨cs, hc⟩ := K.blkP (HSPw.out j p2 hj)
              exact blk_lt hc
            have hns : ∀ j p2 : Nat, ps[j]? = some (some p2) → ¬ (p2 = m ∨ some p2 = qv.ownBlock) := fun j p2 hj hs => by
              have h1 := hps j p2 hj
              rcases hs with rfl | hs
              · omega
              · have := Kd.R_base HQ3.out p2 hs.symm
                omega
            have HPS5 := Aside0.mk (R_kept HPS3.out HK45.out (fun i hi _ => by
              rcases hi with rfl | hi
              · exact ⟨_, _, HM3.out, by intro q hq; simp [kS, Kd.scalar] at hq; subst hq; decide⟩
              · obtain ⟨cs, hc⟩ := Kd.R_typed HQ3.out i hi.symm
                exact ⟨_, _, hc, by intro q hq; simp [kS, Kd.scalar] at hq; subst hq; decide⟩))
            have HB5 := Aside0.mk ((below_weaken (below_drew HB3.out) hsz HB4.out).setCell (p := ⟨m, 0, none⟩) hm0 (.slice A4 nl c4_))
            have HST5 : Aside0 (K.St ps (w4.setCell ⟨m, 0, none⟩ (.slice A4 nl c4_)) (QK ps rl (k + 1)) (fun _ => 1) (k + 1)) := ⟨fun j p2 hj hp => by
              rw [HQS.out]
              by_cases hjk : j = k
              · subst hjk
                have hpp : p2 = p := by have := HGO.out; rw [hp] at this; injection this with this; injection this
                subst hpp
                refine ⟨fun l hl ha => ?_, fun hn => absurd rfl (hn _ (List.mem_append_right _ (List.mem_singleton.2 rfl)))⟩
                rcases List.mem_append.1 hl with hl | hl
                · exact absurd (HAT.out l hl) (by omega)
                · rw [List.mem_singleton.1 hl]
                  exact K.keepP H1.out HK45.out (hns j p2 hp)
              · obtain ⟨g1, g2⟩ := HST3.out j p2 (by omega) hp
                refine ⟨fun l hl ha => ?_, fun hn => K.keepD (g2 (fun l hl => hn l (List.mem_append_left _ hl))) HK45.out (hns j p2 hp)⟩
                rcases List.mem_append.1 hl with hl | hl
                · exact K.keepP (g1 l hl ha) HK45.out (hns j p2 hp)
                · rw [List.mem_singleton.1 hl] at ha
                  exact absurd ha.symm hjk⟩
            have HSP5 : Aside0 (∀ j p : Nat, k + 1 ≤ j → ps[j]? = some (some p) → K.SP (w4.setCell ⟨m, 0, none⟩ (.slice A4 nl c4_)) p ((rl j).map Prod.fst) 0) := ⟨fun j p2 hj hp => K.keepP (HSP3.out j p2 hj hp) HK45.out (hns j p2 hp)⟩
            have HK5w := Aside0.mk (HK3.out.then_ HK45.out (fun i hi => by
              rcases hi with rfl | hi
              · exact .inr hmw
              · exact .inr (Kd.R_base HQ3.out i hi.symm)))
            clear hk34 hps hns
            go_wp2_with (fail)
            go_roundg kk
            case measure => omega
            case rel => exact ⟨k + 1, .slice A4 nl c4_, rfl, by omega, HM5, ⟨by rw [HQS.out]; exact HQ5.out⟩, HPS5, HST5, HSP5, HB5, HK5w⟩
end Go.Proofs.Ytenmljkddhonmaa.MMrg
