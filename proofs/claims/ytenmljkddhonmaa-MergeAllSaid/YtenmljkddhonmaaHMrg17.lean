import Derived.Test.YtenmljkddhonmaaHMrg16
import Derived.Laws.EntriesVeiled
namespace Go.Proofs.Ytenmljkddhonmaa.MMrg
open Go.RowKit Go.Proofs.Ytenmljkddhonmaa.QMrg Go.Proofs.YtenmljkddhonmaaW.PrintWords Go.Proofs.YtenmljkddhonmaaW.PrintLast Go.Proofs.YtenmljkddhonmaaW.PrintMore
set_option linter.unusedVariables false
set_option linter.unusedSimpArgs false
theorem flatten_get {α : Type} (sz : Nat) : ∀ (css : List (List α)) (j i : Nat) (c : List α), (∀ c ∈ css, c.length = sz) → css[j]? = some c → i < sz → css.flatten[j * sz + i]? = c[i]?
  | [], j, i, c, _, h, _ => by cases h
  | d :: css, 0, i, c, hs, h, hi => by
    injection h with h
    subst h
    rw [List.flatten_cons, Nat.zero_mul, Nat.zero_add, List.getElem?_append_left (by rw [hs d List.mem_cons_self]; exact hi)]
  | d :: css, j + 1, i, c, hs, h, hi => by
    have hd := hs d List.mem_cons_self
    rw [List.flatten_cons, List.getElem?_append_right (by rw [hd, Nat.succ_mul]; omega), hd, show (j + 1) * sz + i - sz = j * sz + i by rw [Nat.succ_mul]; omega]
    exact flatten_get sz css j i c (fun c hc => hs c (List.mem_cons_of_mem _ hc)) (by simpa using h) hi
/-- A row that was laid by a literal. -/
theorem lits_C {α : Type} {d : Kd α} {w : World} {g t : Nat} {cs : Array Value} (css : List (List Value)) {xs : List α} (h : w.heap[g]? = some (.cells cs t (0, 0))) (he : cs = css.flatten.toArray) (hl : css.length = xs.length) (hs : ∀ c ∈ css, c.length = d.sz) (hK : ∀ (j : Nat) p c, xs[j]? = some p → css[j]? = some c → d.K w p c) (hm : xs.length ≤ 9223372036854775807) : d.C w (some ⟨g, 0, none⟩) xs.length xs := by
  refine ⟨rfl, hm, fun _ => ⟨⟨g, 0, none⟩, rfl, fun j p hj => ?_⟩⟩
  have hjl := (List.getElem?_eq_some_iff.1 hj).1
  have hc := List.getElem?_eq_getElem (l := css) (i := j) (by omega)
  refine ⟨css[j]'(by omega), hs _ (List.getElem_mem _), hK j p _ hj hc, fun i u hu => ?_⟩
  rw [add_plain, blk_cell h, he, List.getElem?_toArray]
  rw [flatten_get d.sz css j i _ hs hc (by have := (List.getElem?_eq_some_iff.1 hu).1; rw [hs _ (List.getElem_mem _)] at this; exact this)]
  exact hu
def c5 (x : S28) : List Value := [.string x.f0, .int .i64 x.f1, .int .i64 x.f2, .string x.f3, .string x.f4]
theorem lits28 {w : World} {g t : Nat} {cs : Array Value} {xs : List S28} (h : w.heap[g]? = some (.cells cs t (0, 0))) (he : cs = (xs.map c5).flatten.toArray) (hm : xs.length ≤ 9223372036854775807) : Kd.C k28 w (some ⟨g, 0, none⟩) xs.length xs := by
  refine lits_C (xs.map c5) h he (by simp) (fun c hc => ?_) (fun j p c hj hc => ?_) hm
  · obtain ⟨x, _, rfl⟩ := List.mem_map.1 hc
    rfl
  · rw [List.getElem?_map, hj] at hc
    injection hc with hc
    subst hc
    exact k28_mk w p
def eb1 : S28 := ⟨⟨#[98]⟩, 1, 0, ⟨#[]⟩, ⟨#[]⟩⟩
def ea1 : S28 := ⟨⟨#[97]⟩, 1, 0, ⟨#[]⟩, ⟨#[]⟩⟩
def eb2 : S28 := ⟨⟨#[98]⟩, 2, 0, ⟨#[]⟩, ⟨#[]⟩⟩
def ex1 : S28 := ⟨⟨#[120]⟩, 0, 0, ⟨#[]⟩, ⟨#[]⟩⟩
theorem begZ : ([(ea1, 1), (eb2, 1), (eb1, 0)] : List (S28 × Nat)).Pairwise (fun x y => x.2 ≠ y.2 → lessH x.1 x.2 y.1 y.2 = true) := by
  simp only [List.pairwise_cons, List.mem_cons, List.not_mem_nil, or_false, forall_eq_or_imp, forall_eq]
  refine ⟨⟨fun h => absurd rfl h, fun _ => by decide +kernel⟩, fun _ => by decide +kernel, ?_⟩
  simp
theorem beg_rows {W : World} {a b c : Nat} (h1 : W.heap[a]? = some (.cells #[.string ⟨#[98]⟩, .int .i64 1, .int .i64 0, .string ⟨#[]⟩, .string ⟨#[]⟩] 28 (0, 0))) (h2 : W.heap[b]? = some (.cells #[.string ⟨#[97]⟩, .int .i64 1, .int .i64 0, .string ⟨#[]⟩, .string ⟨#[]⟩, .string ⟨#[98]⟩, .int .i64 2, .int .i64 0, .string ⟨#[]⟩, .string ⟨#[]⟩] 28 (0, 0))) (h3 : W.heap[c]? = some (.cells #[.slice (some ⟨a, 0, none⟩) 1 1, .slice (some ⟨b, 0, none⟩) 2 2] 24 (0, 0))) : Kd.C (Kd.slice 28 k28) W (some ⟨c, 0, none⟩) ([[eb1], [ea1, eb2]] : List (List S28)).length [[eb1], [ea1, eb2]] := by
  refine lits_C [[.slice (some ⟨a, 0, none⟩) 1 1], [.slice (some ⟨b, 0, none⟩) 2 2]] h3 rfl rfl (fun c hc => ?_) (fun j p c hj hc => ?_) (by decide)
  · simp only [List.mem_cons, List.not_mem_nil, or_false] at hc
    rcases hc with rfl | rfl <;> rfl
  · match j, hj, hc with
    | 0, hj, hc =>
      injection hj with hj
      injection hc with hc
      subst hj; subst hc
      exact ⟨_, 1, rfl, by decide, lits28 h1 rfl (by decide)⟩
    | 1, hj, hc =>
      injection hj with hj
      injection hc with hc
      subst hj; subst hc
      exact ⟨_, 2, rfl, by decide, lits28 h2 rfl (by decide)⟩
    | (n + 2), hj, hc => cases hj
theorem blk_new1 (w : World) (o o' : Obj) : ((w.alloc o).alloc o').heap[w.heap.size + 1]? = some o' := by
  have h := blk_new (w.alloc o) o'
  rw [Go.Deep.nblk_alloc] at h
  exact h
theorem blk_new2 (w : World) (o o' o2 : Obj) : (((w.alloc o).alloc o').alloc o2).heap[w.heap.size + 1 + 1]? = some o2 := by
  have h := blk_new ((w.alloc o).alloc o') o2
  rw [Go.Deep.nblk_alloc, Go.Deep.nblk_alloc] at h
  exact h
/-- A row of sources that was laid by a literal. -/
theorem lit_srcs {W : World} {g base : Nat} {cs : Array Value} {ps : List (Option Nat)} (h : W.heap[g]? = some (.cells cs 68 (0, 0))) (he : cs = (ps.map (srcV 110)).toArray) (hb : base ≤ g) (hm : ps.length ≤ 1000000) : (kS 110).R 68 W base (fun _ => True) (.slice (some ⟨g, 0, none⟩) ps.length ps.length) ps := by
  subst he
  refine ⟨fun _ _ => trivial, ps.map (srcV 110), ⟨?_, .inr ⟨g, ps.length, _, rfl, hb, h, Nat.le_refl _, by unfold maxLen; omega, ?_, ?_⟩⟩, ?_⟩
  · rw [List.length_map]; exact (Nat.mul_one _).symm
  · rw [List.size_toArray, List.length_map]; exact (Nat.mul_one _).symm
  · rw [show ps.length * (kS 110).sz = (ps.map (srcV 110)).length by rw [List.length_map]; exact Nat.mul_one _, List.take_length]
  · exact Kd.reps_scalar ps
set_option maxHeartbeats 8000000 in
set_option maxRecDepth 100000 in
theorem incipitlaw18_begun.calls (w : World) : Calls Try.prog 12 #[] w fun e w' => e = .returned (.bool true) ∧ Below w.heap.size w w' := by
  go_enter Try.func12, Try.ntmps12
  go_wp2_with (fail)
  have hr : Kd.C (Kd.slice 28 k28) (((w.alloc (Obj.cells #[.string ⟨#[98]⟩, .int .i64 1, .int .i64 0, .string ⟨#[]⟩, .string ⟨#[]⟩] 28)).alloc (Obj.cells #[.string ⟨#[97]⟩, .int .i64 1, .int .i64 0, .string ⟨#[]⟩, .string ⟨#[]⟩, .string ⟨#[98]⟩, .int .i64 2, .int .i64 0, .string ⟨#[]⟩, .string ⟨#[]⟩] 28)).alloc (Obj.cells #[.slice (some ⟨w.heap.size, 0, none⟩) 1 1, .slice (some ⟨w.heap.size + 1, 0, none⟩) 2 2] 24)) (some ⟨w.heap.size + 1 + 1, 0, none⟩) ([[eb1], [ea1, eb2]] : List (List S28)).length [[eb1], [ea1, eb2]] := by
    exact beg_rows (a := w.heap.size) (b := w.heap.size + 1) (c := w.heap.size + 1 + 1) (blk_alloc (blk_alloc (blk_new _ _) _) _) (blk_alloc (blk_new1 _ _ _) _) (blk_new2 _ _ _ _)
  have HB1 := Aside0.mk (below_alloc (below_alloc (below_alloc (Below.refl w.heap.size w) (Obj.cells #[.string ⟨#[98]⟩, .int .i64 1, .int .i64 0, .string ⟨#[]⟩, .string ⟨#[]⟩] 28)) (Obj.cells #[.string ⟨#[97]⟩, .int .i64 1, .int .i64 0, .string ⟨#[]⟩, .string ⟨#[]⟩, .string ⟨#[98]⟩, .int .i64 2, .int .i64 0, .string ⟨#[]⟩, .string ⟨#[]⟩] 28)) (Obj.cells #[.slice (some ⟨w.heap.size, 0, none⟩) 1 1, .slice (some ⟨w.heap.size + 1, 0, none⟩) 2 2] 24))
  have HR := Aside0.mk hr
  clear hr
  generalize ((w.alloc (Obj.cells #[.string ⟨#[98]⟩, .int .i64 1, .int .i64 0, .string ⟨#[]⟩, .string ⟨#[]⟩] 28)).alloc (Obj.cells #[.string ⟨#[97]⟩, .int .i64 1, .int .i64 0, .string ⟨#[]⟩, .string ⟨#[]⟩, .string ⟨#[98]⟩, .int .i64 2, .int .i64 0, .string ⟨#[]⟩, .string ⟨#[]⟩] 28)).alloc (Obj.cells #[.slice (some ⟨w.heap.size, 0, none⟩) 1 1, .slice (some ⟨w.heap.size + 1, 0, none⟩) 2 2] 24) = w1 at *
  refine (merge_All.calls w1 _ 2 [[eb1], [ea1, eb2]] [(ea1, 1), (eb2, 1), (eb1, 0)] HR.out (by decide) (by decide +kernel) begZ (fun j hj => by
    match j, hj with
    | 0, _ => rfl
    | 1, _ => rfl
    | (n + 2), hj => exact absurd hj (Nat.not_lt.2 (by show 2 ≤ n + 2; omega))) (by decide)).mono ?_
  rintro e w2 ⟨v, rfl, hR, hb⟩
  obtain ⟨A2, c2, e2⟩ := Kd.R_slice hR
  subst e2
  have HR2 := Aside0.mk hR
  have HB2 := Aside0.mk (below_step HB1.out hb)
  have hb1 := hb.size
  clear hR hb HB1 HR
  generalize w1.heap.size = b1 at HR2 hb1
  go_wp2_with (fail)
  have hrow := blk_new w2 (Obj.cells #[.string ⟨#[120]⟩, .int .i64 0, .int .i64 0, .string ⟨#[]⟩, .string ⟨#[]⟩] 28)
  have HB3 := Aside0.mk (below_alloc HB2.out (Obj.cells #[.string ⟨#[120]⟩, .int .i64 0, .int .i64 0, .string ⟨#[]⟩, .string ⟨#[]⟩] 28))
  have HR3 := Aside0.mk (Kd.R_alloc HR2.out (Obj.cells #[.string ⟨#[120]⟩, .int .i64 0, .int .i64 0, .string ⟨#[]⟩, .string ⟨#[]⟩] 28))
  generalize w2.heap.size = r3 at hrow ⊢
  generalize w2.alloc (Obj.cells #[.string ⟨#[120]⟩, .int .i64 0, .int .i64 0, .string ⟨#[]⟩, .string ⟨#[]⟩] 28) = w3 at *
  have HROW := Aside0.mk hrow
  clear hrow HR2 HB2
  refine (merge_Slice.calls w3 (some ⟨r3, 0, none⟩) 1 1).mono ?_
  rintro e w4 ⟨rfl, rfl⟩
  have hsp : SlP w3 (w3.alloc (Obj.cells #[.slice (some ⟨r3, 0, none⟩) 1 1] 112)) w3.heap.size [ex1] 0 := ⟨Nat.le_refl _, some ⟨r3, 0, none⟩, 1, blk_new _ _, Nat.le_refl _, lits28 HROW.out rfl (by decide)⟩
  have HB4 := Aside0.mk (below_alloc HB3.out (Obj.cells #[.slice (some ⟨r3, 0, none⟩) 1 1] 112))
  have HR4 := Aside0.mk (Kd.R_alloc HR3.out (Obj.cells #[.slice (some ⟨r3, 0, none⟩) 1 1] 112))
  have HB34 := Aside0.mk (below_alloc (Below.refl w3.heap.size w3) (Obj.cells #[.slice (some ⟨r3, 0, none⟩) 1 1] 112))
  generalize hp : w3.heap.size = p at hsp ⊢
  have hpl : p < (w3.alloc (Obj.cells #[.slice (some ⟨r3, 0, none⟩) 1 1] 112)).heap.size := by rw [Go.Deep.nblk_alloc, hp]; omega
  generalize w3.alloc (Obj.cells #[.slice (some ⟨r3, 0, none⟩) 1 1] 112) = w4 at *
  have HSP := Aside0.mk hsp
  have HP := Aside0.mk hp
  clear hsp hp HR3
  go_wp2_with (fail)
  have hrow := blk_new w4 (Obj.cells #[.iface 110 (.pointer (some ⟨p, 0, none⟩)), .nilIface] 68)
  have HB5 := Aside0.mk (below_alloc HB4.out (Obj.cells #[.iface 110 (.pointer (some ⟨p, 0, none⟩)), .nilIface] 68))
  have HB35 := Aside0.mk (below_alloc HB34.out (Obj.cells #[.iface 110 (.pointer (some ⟨p, 0, none⟩)), .nilIface] 68))
  have HR5 := Aside0.mk (Kd.R_alloc HR4.out (Obj.cells #[.iface 110 (.pointer (some ⟨p, 0, none⟩)), .nilIface] 68))
  have HSP5 := Aside0.mk ((SlK w3).keepP (c := 0) HSP.out ((Kept.refl w4 (fun _ => False)).alloc (Obj.cells #[.iface 110 (.pointer (some ⟨p, 0, none⟩)), .nilIface] 68)) (fun h => h))
  have hpl5 : p < (w4.alloc (Obj.cells #[.iface 110 (.pointer (some ⟨p, 0, none⟩)), .nilIface] 68)).heap.size := by rw [Go.Deep.nblk_alloc]; omega
  have hg5 : w.heap.size ≤ w4.heap.size := below_size HB4.out
  generalize w4.heap.size = r5 at hg5 hrow ⊢
  generalize w4.alloc (Obj.cells #[.iface 110 (.pointer (some ⟨p, 0, none⟩)), .nilIface] 68) = w5 at *
  have hps := lit_srcs (ps := [some p, none]) (base := r5) hrow rfl (Nat.le_refl _) (by show 2 ≤ 1000000; decide)
  have HPS := Aside0.mk hps
  have hinv := Inv_tags [(ex1, 0)] 2 (by decide +kernel) (by simp)
  have hqk : QK [some p, none] (rkL [(ex1, 0)]) 2 = QL (rkL [(ex1, 0)]) 2 := QK_QL (fun j hj => by
    match j, hj with
    | 0, _ => exact .inr ⟨p, rfl⟩
    | 1, _ => exact .inl rfl)
  have hinj : ∀ i j q : Nat, ([some p, none] : List (Option Nat))[i]? = some (some q) → ([some p, none] : List (Option Nat))[j]? = some (some q) → i = j := by
    intro i j q hi hj
    have key : ∀ i, ([some p, none] : List (Option Nat))[i]? = some (some q) → i = 0 := by
      intro i hi
      match i, hi with
      | 0, _ => rfl
      | 1, hi => cases hi
      | (n + 2), hi => cases hi
    rw [key i hi, key j hj]
  have hone : ∀ j q : Nat, ([some p, none] : List (Option Nat))[j]? = some (some q) → j = 0 ∧ q = p := by
    intro j q hj
    match j, hj with
    | 0, hj => injection hj with hj; injection hj with hj; exact ⟨rfl, hj.symm⟩
    | 1, hj => cases hj
    | (n + 2), hj => cases hj
  have hcn := merge_New.calls w3 (SlK w3) w5 r5 (some ⟨r5, 0, none⟩) 2 [some p, none] (rkL [(ex1, 0)]) HPS.out (by show 2 < 999999; decide) (fun j q hj => by
    obtain ⟨rfl, rfl⟩ := hone j q hj
    exact HSP5.out) hinj (by show Agree lessH (QK [some p, none] (rkL [(ex1, 0)]) 2); rw [hqk]; exact hinv.agree) HB35.out
  have HCN := Aside0.mk hcn
  have HINV := Aside0.mk hinv
  have HINJ := Aside0.mk hinj
  have HONE := Aside0.mk hone
  have HQK := Aside0.mk hqk
  clear hrow hps hinv hqk hinj hone hcn
  refine HCN.out.mono ?_
  rintro e w6 ⟨m, q, rfl, hmw, h1, h2, h3, h4, h5, h6⟩
  have h2' : q.Perm (QL (rkL [(ex1, 0)]) 2) := by rw [← HQK.out]; exact h2
  have hms : MS w3 (SlK w3) [some p, none] [ex1] w5.heap.size w6 m 0 q (fun _ => 1) := ⟨h1, HINV.out.of_perm h2', h3, h4, fun l hl => by
    have hm := (QL_mem (h2'.mem_iff.1 hl)).2
    have ha := (QL_mem (h2'.mem_iff.1 hl)).1
    match hl1 : l.at_, ha with
    | 0, _ => exact ⟨p, rfl⟩
    | 1, _ =>
      rw [hl1] at hm
      unfold items at hm
      cases hm
    | (n + 2), ha => omega, by rw [h2'.length_eq]; decide +kernel, rfl, fun j q hq => by
    obtain ⟨rfl, rfl⟩ := HONE.out j q hq
    exact hpl5, HINJ.out, HB35.out.size, by show 2 < 1000000; decide, h6⟩
  have HR6 := Aside0.mk (R_kept HR5.out h5 (fun k hk _ => by
    obtain ⟨j, hj⟩ := hk
    obtain ⟨rfl, rfl⟩ := HONE.out j k hj
    obtain ⟨_, A7, c7, h7, _⟩ := HSP5.out
    exact ⟨_, _, h7, by intro t ht; simp [k28, Kd.iso, Kd.pair, Kd.string, Kd.int, Kd.scalar] at ht; subst ht; decide⟩))
  have HMS := Aside0.mk hms
  have hb3 := HB3.out.size
  have HB6 := Aside0.mk (below_weaken HB3.out (Nat.le_refl _) (show Below w.heap.size w3 w6 from ⟨h6.os, h6.tape, h6.output, h6.size, fun i hi => h6.block i (by omega)⟩))
  clear h1 h2 h3 h4 h5 h6 h2' hms HCN HPS HINV HQK HSP5 HR5 HB5 HSP HROW HR4 HB4 HINJ HONE
  have hh : ∀ t, t ∈ 28 :: k28.E → t ≠ 74 ∧ t ≠ 76 ∧ t ≠ (SlK w3).bt := by
    intro t ht
    simp [k28, Kd.iso, Kd.pair, Kd.string, Kd.int, Kd.scalar] at ht
    subst ht
    exact ⟨by decide, by decide, (by decide : (28 : Nat) ≠ 112)⟩
  go_upto_region 5 with (fail)
  go_wp2_with (fail)
  refine (merged_Next_some w3 (SlK w3) [some p, none] [ex1] w5.heap.size w6 m 0 q _ HMS.out ex1 rfl).mono ?_
  rintro e w7 ⟨q7, cnt7, rfl, h1, h2⟩
  have HR7 := Aside0.mk (HMS.out.row h2 HR6.out hh)
  have HB7 : Aside0 (Below w.heap.size w w7) := ⟨below_weaken HB3.out (Nat.le_refl _) (show Below w.heap.size w3 w7 from ⟨h1.below.os, h1.below.tape, h1.below.output, h1.below.size, fun i hi => h1.below.block i (by omega)⟩)⟩
  have HMS7 := Aside0.mk h1
  clear h1 h2 HR6 HMS
  unfold tellV
  go_upto_region 6 with (fail)
  have hbx := Box5.new w7 ex1
  have hka : Kept w7 (w7.alloc (Obj.cells #[.string ex1.f0, .int .i64 ex1.f1, .int .i64 ex1.f2, .string ex1.f3, .string ex1.f4] 28)) (fun k => ∃ cs, w7.heap[k]? = some (.cells cs 28 (0, 0))) := (Kept.refl _ _).alloc _
  have HMS8 := Aside0.mk (HMS7.out.less hka (HMS7.out.below.alloc HMS7.out.below.size _))
  have HR8 := Aside0.mk (Kd.R_alloc HR7.out (Obj.cells #[.string ex1.f0, .int .i64 ex1.f1, .int .i64 ex1.f2, .string ex1.f3, .string ex1.f4] 28))
  have HB8 := Aside0.mk (below_alloc HB7.out (Obj.cells #[.string ex1.f0, .int .i64 ex1.f1, .int .i64 ex1.f2, .string ex1.f3, .string ex1.f4] 28))
  generalize w7.heap.size = gp at hbx ⊢
  generalize w7.alloc (Obj.cells #[.string ex1.f0, .int .i64 ex1.f1, .int .i64 ex1.f2, .string ex1.f3, .string ex1.f4] 28) = w8 at *
  have HBX := Aside0.mk hbx
  clear hbx hka HMS7 HR7 HB7
  go_wp2_with (fail)
  refine (merged_Next_none w3 (SlK w3) [some p, none] [ex1] w5.heap.size w8 m 1 q7 cnt7 HMS8.out (by decide)).mono ?_
  rintro e w9 ⟨rfl, h1⟩
  unfold tellV
  have HB9 := Aside0.mk (below_alloc (below_step HB8.out h1) (Obj.cells #[.string ⟨#[]⟩, .int .i64 0, .int .i64 0, .string ⟨#[]⟩, .string ⟨#[]⟩] 28))
  have hbx9 := Box5.below (HBX.out.below h1) (below_alloc (Below.refl _ _) (Obj.cells #[.string ⟨#[]⟩, .int .i64 0, .int .i64 0, .string ⟨#[]⟩, .string ⟨#[]⟩] 28))
  have HR9 := Aside0.mk (Kd.R_alloc (Kd.R_below HR8.out h1) (Obj.cells #[.string ⟨#[]⟩, .int .i64 0, .int .i64 0, .string ⟨#[]⟩, .string ⟨#[]⟩] 28))
  obtain ⟨_, _, hC⟩ := Kd.R_reads' HR9.out
  obtain ⟨ad, rfl, x0, _, _, _, _⟩ := at_T28 hC 0 (by decide) (by decide)
  obtain ⟨ad', e', _, y1, _, _, _⟩ := at_T28 hC 1 (by decide) (by decide)
  injection e' with e'
  subst e'
  obtain ⟨c0, _, _, _, _⟩ := hbx9.cells
  clear h1 hC hbx9 HMS8 HR8 HB8
  go_upto_region 7 with (fail)
  generalize w9.alloc (Obj.cells #[.string ⟨#[]⟩, .int .i64 0, .int .i64 0, .string ⟨#[]⟩, .string ⟨#[]⟩] 28) = w10 at *
  have x0' : w10.cell? ad = some (.string ⟨#[97]⟩) := by
    have ha : ad.add ((0 : Int).toNat * 5) = ad := by unfold Addr.add; simp
    rw [ha] at x0
    exact x0
  have y1' : w10.cell? ⟨ad.block, ad.off + 5 + 1, none⟩ = some (.int .i64 2) := y1
  have c0' : w10.cell? ⟨gp, 0, none⟩ = some (.string ⟨#[120]⟩) := c0
  clear x0 y1 c0
  go_wp2_with (fail)
  go_ret
  exact ⟨rfl, HB9.out⟩
end Go.Proofs.Ytenmljkddhonmaa.MMrg
