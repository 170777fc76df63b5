import Derived.Test.YtenmljkddhonmaaHMrg7
import Derived.Laws.EntriesVeiled
namespace Go.Proofs.Ytenmljkddhonmaa.MMrg
open Go.RowKit Go.Proofs.Ytenmljkddhonmaa.QMrg Go.Proofs.YtenmljkddhonmaaW.PrintWords Go.Proofs.YtenmljkddhonmaaW.PrintLast Go.Proofs.YtenmljkddhonmaaW.PrintMore
set_option linter.unusedVariables false
set_option linter.unusedSimpArgs false
theorem info76 : (Try.prog.info? 76).map (fun i => (i.zero, i.size, i.bytes)) = some (some (.agg #[.string ⟨#[]⟩, .int .i64 0, .int .i64 0, .string ⟨#[]⟩, .string ⟨#[]⟩, .int .i64 0, .nilFunc]), 7, 80) := by kernel_rfl
/-- A slice's head. -/
def SlB (w : World) (m b n c : Nat) : Prop := w.heap[m]? = some (.cells #[.slice (some ⟨b, 0, none⟩) n c] 74 (0, 0))
theorem box7_cells {w : World} {gp : Nat} {v0 v1 v2 v3 v4 v5 v6 : Value} {t : TypeId} (h : w.heap[gp]? = some (.cells #[v0, v1, v2, v3, v4, v5, v6] t (0, 0))) : w.cell? ⟨gp, 0, none⟩ = some v0 ∧ w.cell? ⟨gp, 1, none⟩ = some v1 ∧ w.cell? ⟨gp, 2, none⟩ = some v2 ∧ w.cell? ⟨gp, 3, none⟩ = some v3 ∧ w.cell? ⟨gp, 4, none⟩ = some v4 ∧ w.cell? ⟨gp, 5, none⟩ = some v5 ∧ w.cell? ⟨gp, 6, none⟩ = some v6 :=
  ⟨by rw [blk_cell h 0]; rfl, by rw [blk_cell h 1]; rfl, by rw [blk_cell h 2]; rfl, by rw [blk_cell h 3]; rfl, by rw [blk_cell h 4]; rfl, by rw [blk_cell h 5]; rfl, by rw [blk_cell h 6]; rfl⟩
theorem QRow.take {w : World} {ask : Nat → Value} {b : Nat} {q : List L28} (h : QRow w ask b q) (n : Nat) : QRow w ask b (q.take n) := by
  obtain ⟨tail, h⟩ := h
  refine ⟨flat ask (q.drop n) ++ tail, ?_⟩
  rw [h, ← List.append_assoc]
  congr 4
  unfold flat
  rw [← List.flatMap_append, List.take_append_drop]
theorem QRow.kept {w w' : World} {ask : Nat → Value} {b : Nat} {q : List L28} {S : Nat → Prop} (h : QRow w ask b q) (hk : Kept w w' S) (hb : ¬ S b) : QRow w' ask b q := by
  obtain ⟨tail, h⟩ := h
  exact ⟨tail, blk_kept h hk hb⟩
set_option maxHeartbeats 8000000 in
set_option maxRecDepth 100000 in
theorem queue_Pop.calls (w0 w : World) (ask : Nat → Value) (m b c : Nat) (q : List L28) (hq : QM w ask m b c q) (hp : 0 < q.length) (hc : q.length ≤ c) (hql : q.length < 1000000) (hB : Below w0.heap.size w0 w) (hm0 : w0.heap.size ≤ m) :
    Calls Try.prog 114 #[.pointer (some ⟨m, 0, none⟩)] w fun e w' => ∃ v, e = .returned v ∧ QM w' ask m b c (q.take (q.length - 1)) ∧ Kept w w' (fun k => k = m) ∧ Below w0.heap.size w0 w' := by
  obtain ⟨i0, hi0, _, hsz, _⟩ := info_parts info76
  have hcut : ∀ W : World, (Instr.slice 72 (.slice (some ⟨b, 0, none⟩) q.length c) none (some (.int .i64 ((q.length : Int) - 1))) none).run Try.prog W = .ok (.slice (some ⟨b, 0, none⟩) (q.length - 1) c) W := by
    intro W
    have h := cut_to (P := Try.prog) 72 76 .i64 Try.underlying72 hi0 (some ⟨b, 0, none⟩) q.length c ((q.length : Int) - 1) (by omega) (by omega) hc W
    rw [h]
    congr 2
    omega
  have hw : IntKind.i64.wrap ((q.length : Int) - 1) = (q.length : Int) - 1 := by rw [IntKind.wrap_i64]; omega
  have hcell := hq.cell
  have hfz : w.frozen? ⟨m, 0, none⟩ = false := blk_frozen hq.1 0
  obtain ⟨a0, a1, a2, a3, a4, a5, a6⟩ := hq.2.cells (i := q.length - 1) (by omega)
  obtain ⟨x, hx⟩ : ∃ x, Aside0 (x = q[q.length - 1]) := ⟨_, ⟨rfl⟩⟩
  rw [← hx.out] at a0 a1 a2 a3 a4 a5 a6
  generalize ask x.at_ = vx at a6
  have hn : ((q.length : Int) - 1).toNat = q.length - 1 := by omega
  have hmlt := blk_lt hq.1
  have hblt : b < w.heap.size := by
    obtain ⟨tail, h⟩ := hq.2
    exact blk_lt h
  have hi3 : ((1 : Int) ≤ (q.length : Int)) = True := eq_true (by omega)
  have hi1 : ((0 : Int) ≤ (q.length : Int) - 1) = True := eq_true (by omega)
  have hi2 : ((q.length : Int) - 1 < (q.length : Int)) = True := eq_true (by omega)
  have HQ := Aside0.mk hq
  have HB := Aside0.mk hB
  have HX := Aside0.mk hx
  clear hq hB hi0 hsz hx
  go_enter Try.func114, Try.ntmps114
  go_wp2_with (fail)
  go_region
  all_goals
    have HQ1 : Aside0 (QM (w.alloc (Obj.cells #[.string x.e.f0, .int .i64 x.e.f1, .int .i64 x.e.f2, .string x.e.f3, .string x.e.f4, .int .i64 (x.at_ : Int), .func (Fn.method "Next") #[vx] #[]] 76)).drew ask m b c q) := ⟨HQ.out.below (below_drew (below_alloc (Below.refl _ _) _))⟩
    have HB1 := Aside0.mk (below_drew (HB.out.alloc HB.out.size (Obj.cells #[.string x.e.f0, .int .i64 x.e.f1, .int .i64 x.e.f2, .string x.e.f3, .string x.e.f4, .int .i64 (x.at_ : Int), .func (Fn.method "Next") #[vx] #[]] 76)))
    have HK1 : Aside0 (Kept w (w.alloc (Obj.cells #[.string x.e.f0, .int .i64 x.e.f1, .int .i64 x.e.f2, .string x.e.f3, .string x.e.f4, .int .i64 (x.at_ : Int), .func (Fn.method "Next") #[vx] #[]] 76)).drew (fun k => k = m)) := ⟨(Kept.refl _ _).below (below_drew (below_alloc (Below.refl _ _) _))⟩
    have hbx := blk_drew (blk_new w (Obj.cells #[.string x.e.f0, .int .i64 x.e.f1, .int .i64 x.e.f2, .string x.e.f3, .string x.e.f4, .int .i64 (x.at_ : Int), .func (Fn.method "Next") #[vx] #[]] 76))
    obtain ⟨gp, hgp⟩ : ∃ gp, gp = w.heap.size := ⟨_, rfl⟩
    rw [← hgp] at hbx ⊢
    have hgm : m ≠ gp := by omega
    generalize (w.alloc (Obj.cells #[.string x.e.f0, .int .i64 x.e.f1, .int .i64 x.e.f2, .string x.e.f3, .string x.e.f4, .int .i64 (x.at_ : Int), .func (Fn.method "Next") #[vx] #[]] 76)).drew = w1 at *
    have hcell1 := HQ1.out.cell
    have hfz1 : w1.frozen? ⟨m, 0, none⟩ = false := blk_frozen HQ1.out.1 0
    have HX7 := Aside0.mk hbx
    clear hbx hcell hfz a0 a1 a2 a3 a4 a5 a6 hmlt hblt hgp
    go_wp2_with (fail)
    go_region
    all_goals
      have hk2 : Kept w1 (w1.setCell ⟨m, 0, none⟩ (.slice (some ⟨b, 0, none⟩) (q.length - 1) c)).drew (fun k => k = m) := Kept.drew (Kept.setCell (S := fun k => k = m) (p := ⟨m, 0, none⟩) (Kept.refl _ _) (.inl rfl) _)
      have hq2 : QM (w1.setCell ⟨m, 0, none⟩ (.slice (some ⟨b, 0, none⟩) (q.length - 1) c)).drew ask m b c (q.take (q.length - 1)) := ⟨by
        have hl : (q.take (q.length - 1)).length = q.length - 1 := by rw [List.length_take]; omega
        rw [hl]
        exact blk_drew (blk_set HQ1.out.1 0 _), (HQ1.out.2.kept hk2 (fun e => HQ1.out.ne e.symm)).take _⟩
      have HQ2 := Aside0.mk hq2
      have HB2 := Aside0.mk (below_drew (HB1.out.setCell (p := ⟨m, 0, none⟩) hm0 (.slice (some ⟨b, 0, none⟩) (q.length - 1) c)))
      have HK2 := Aside0.mk (HK1.out.then_ hk2 (fun k hk => .inl hk))
      have hb2 := blk_kept HX7.out hk2 (fun e => hgm e.symm)
      obtain ⟨b0, b1, b2, b3, b4, b5, b6⟩ := box7_cells hb2
      clear hk2 hq2 hb2
      generalize (w1.setCell ⟨m, 0, none⟩ (.slice (some ⟨b, 0, none⟩) (q.length - 1) c)).drew = w2 at *
      go_wp2_with (fail)
      go_ret
      exact ⟨_, rfl, HQ2.out, HK2.out, HB2.out⟩
end Go.Proofs.Ytenmljkddhonmaa.MMrg
