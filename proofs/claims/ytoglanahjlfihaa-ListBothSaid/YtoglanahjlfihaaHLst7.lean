import Derived.Test.YtoglanahjlfihaaHLst6
namespace Go.Proofs.Ytoglanahjlfihaa.MLst
open Go.RowKit Go.Proofs.Ytoglanahjlfihaa.QLst Go.Proofs.YtoglanahjlfihaaW.PrintWords Go.Proofs.YtoglanahjlfihaaW.PrintLast Go.Proofs.YtoglanahjlfihaaW.PrintMore
set_option linter.unusedVariables false
set_option linter.unusedSimpArgs false
theorem info3 : (Try.prog.info? 3).map (fun i => (i.zero, i.size, i.bytes)) = some (some (.int .i64 0), 1, 8) := by kernel_rfl
theorem blk_new2 (w : World) (o o2 : Obj) : ((w.alloc o).alloc o2).heap[w.heap.size + 1]? = some o2 := by
  have h := blk_new (w.alloc o) o2
  rw [Go.Deep.nblk_alloc] at h
  exact h
theorem blk_new3 (w : World) (o o2 o3 : Obj) : (((w.alloc o).alloc o2).alloc o3).heap[w.heap.size + 1 + 1]? = some o3 := by
  have h := blk_new ((w.alloc o).alloc o2) o3
  rw [Go.Deep.nblk_alloc, Go.Deep.nblk_alloc] at h
  exact h
theorem new_end (w0 w Wf : World) (gr gn g : Nat) {A : Option Addr} {c : Nat} {hs : List Int} (h1 : Wf.heap[gr]? = some (.cells (rowV (fun _ => none) 8) 85 (0, 0))) (h2 : Wf.heap[gn]? = some (.cells #[.string ⟨#[]⟩, .int .i64 0, .int .i64 0, .string ⟨#[]⟩, .string ⟨#[]⟩, .slice (some ⟨gr, 0, none⟩) 8 8] 88 (0, 0))) (h3 : Wf.heap[g]? = some (.cells #[.pointer (some ⟨gn, 0, none⟩), .slice A hs.length c, .int .i64 0, .int .i64 0] 90 (0, 0))) (h4 : Kd.R (Kd.int .i64) 3 Wf w.heap.size (fun _ => True) (.slice A hs.length c) hs) (h5 : Below w.heap.size w Wf) (h6 : w.heap.size ≤ gr) (h7 : w.heap.size ≤ g) (hB : Below w0.heap.size w0 w) :
    ∃ g' hd, Ending.returned (.pointer (some ⟨g, 0, none⟩)) = .returned (.pointer (some ⟨g', 0, none⟩)) ∧ LO w0 Wf g' hd [] hs 0 ∧ Below w.heap.size w Wf ∧ w.heap.size ≤ g' ∧ w.heap.size ≤ hd.n := by
  refine ⟨g, ⟨gn, gr, ⟨⟨#[]⟩, 0, 0, ⟨#[]⟩, ⟨#[]⟩⟩, 8⟩, rfl, ⟨fun _ _ => none, _, ⟨h3, rfl, ?_, ?_, ?_, ?_⟩, below_step hB h5, Nat.le_trans hB.size h7, ?_, Kd.R_lower h4 hB.size⟩, h5, h7, h6⟩
  · intro y hy
    rw [List.mem_singleton.1 hy]
    exact ⟨h2, h1⟩
  · intro a y c e k hk
    cases a with
    | nil => injection e with _ e; subst e; rfl
    | cons z t => injection e with _ e; cases t <;> cases e
  · intro y hy
    rw [List.mem_singleton.1 hy]
    exact ⟨by show 1 ≤ 8; decide, by show 8 ≤ 8; decide⟩
  · have := blk_ne h2 h1 (by decide)
    unfold Apart
    simpa using this
  · intro y hy
    rw [List.mem_singleton.1 hy]
    exact Nat.le_trans hB.size h6
set_option maxHeartbeats 8000000 in
set_option maxRecDepth 100000 in
theorem list_New.calls (w0 w : World) (A : Option Addr) (c : Nat) (hs : List Int) (hB : Below w0.heap.size w0 w) (hC : Kd.C (Kd.int .i64) w A hs.length hs) (hc : hs.length ≤ c) (hn : hs.length < 1000000) :
    Calls Try.prog 16 #[.slice A hs.length c] w fun e w' => ∃ g hd, e = .returned (.pointer (some ⟨g, 0, none⟩)) ∧ LO w0 w' g hd [] hs 0 ∧ Below w.heap.size w w' ∧ w.heap.size ≤ g ∧ w.heap.size ≤ hd.n := by
  have HB := Aside0.mk hB
  have HC := Aside0.mk hC
  have hmk : ∀ W : World, (Instr.makeSlice 86 (.int .i64 8) (.int .i64 8)).run Try.prog W = .ok (.slice (some ⟨W.heap.size, 0, none⟩) 8 8) (W.alloc (.cells (rowV (fun _ => none) 8) 85)) := make_row 8 (by decide)
  clear hB hC
  go_enter Try.func16, Try.ntmps16
  go_upto_region 1 with (fail)
  go_region_law (refine Kd.R_append_rows_step (Kd.int .i64) (w0 := w) w.heap.size (by kernel_rfl) (.const (.slice none 0 0)) (.tmp 6) 25 3 (.int .i64 0) 8 rfl Try.underlying25 info3 rfl (by decide) (by omega) (.slice none 0 0) [] hs A hs.length c (fun _ => True) (fun _ => False) rfl rfl ?aO ?aR (fun _ _ h => h) (fun _ h => h.elim) ?aF ?aB ?aS ?aL ?_; (case aO => exact Kd.R_nil _ _ _ _ _); (case aF => exact (fun _ _ => trivial)); (case aR => exact Kd.C_below HC.out (by repeat (first | exact Below.refl _ _ | apply below_alloc | apply below_drew1))); (case aB => repeat (first | exact Below.refl _ _ | apply below_alloc | apply below_drew1)); (case aS => refine Below.size (B := w.heap.size) (w := w) ?_; repeat (first | exact Below.refl _ _ | apply below_alloc | apply below_drew1)); (case aL => (simp only [List.length_nil]; omega)); intro v5 w5 ho5 hb5 hg5 hat5; obtain ⟨A6, c6, e6⟩ := Kd.R_slice ho5; rw [List.nil_append] at e6 ho5; subst e6; have HO5 := Aside0.mk ho5; have HB5 := Aside0.mk hb5; have HG5 := Aside0.mk hg5; clear ho5 hb5 hg5 hat5)
  all_goals
    go_wp2_with (fail)
    go_ret
    first
      | exact new_end w0 w _ w.heap.size (w.heap.size + 1) w5.heap.size (blk_alloc (blk_grown (blk_drew (blk_alloc (blk_new w _) _)) HG5.out (by simp [Value.ownBlock])) _) (blk_alloc (blk_grown (blk_drew (blk_new2 w _ _)) HG5.out (by simp [Value.ownBlock])) _) (blk_new w5 _) (Kd.R_alloc HO5.out _) (below_alloc HB5.out _) (Nat.le_refl _) HB5.out.size HB.out
      | exact new_end w0 w _ w.heap.size w5.heap.size (w5.heap.size + 1) (blk_alloc (blk_alloc (blk_grown (blk_drew (blk_new w _)) HG5.out (by simp [Value.ownBlock])) _) _) (blk_alloc (blk_new w5 _) _) (blk_new2 w5 _ _) (Kd.R_alloc (Kd.R_alloc HO5.out _) _) (below_alloc (below_alloc HB5.out _) _) (Nat.le_refl _) (Nat.le_succ_of_le HB5.out.size) HB.out
      | exact new_end w0 w _ w5.heap.size (w5.heap.size + 1) (w5.heap.size + 1 + 1) (blk_alloc (blk_alloc (blk_new w5 _) _) _) (blk_alloc (blk_new2 w5 _ _) _) (blk_new3 w5 _ _ _) (Kd.R_alloc (Kd.R_alloc (Kd.R_alloc HO5.out _) _) _) (below_alloc (below_alloc (below_alloc HB5.out _) _) _) HB5.out.size (Nat.le_succ_of_le (Nat.le_succ_of_le HB5.out.size)) HB.out
end Go.Proofs.Ytoglanahjlfihaa.MLst
