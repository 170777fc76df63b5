import Derived.Test.YtoglanahjlfihaaHBlk0
namespace Go.Proofs.Ytoglanahjlfihaa.MBlk
open Go.RowKit Go.Proofs.YtoglanahjlfihaaW.PrintWords Go.Proofs.YtoglanahjlfihaaW.PrintLast Go.Proofs.YtoglanahjlfihaaW.PrintMore
set_option linter.unusedVariables false
set_option linter.unusedSimpArgs false
/-- A builder at block g: both its rows are the call's own (since w0), and apart. -/
def BldI (w0 w : World) (g : Nat) (rows : Int) (last : ByteArray) (b p : List Int) : Prop :=
  w0.heap.size ≤ g ∧ Below w0.heap.size w0 w ∧ ∃ vb vp, w.heap[g]? = some (.cells #[.int .i64 rows, .string last, vb, vp] 111 (0, 0)) ∧ Kd.R (Kd.int .u8) 5 w w0.heap.size (fun k => k ≠ g) vb b ∧ Kd.R (Kd.int .u8) 5 w w0.heap.size (fun k => k ≠ g) vp p ∧ (∀ k, vb.ownBlock = some k → vp.ownBlock ≠ some k)
/-- Blocks of other types stay, but for g. -/
def Oth (w w' : World) (g : Nat) : Prop := w.heap.size ≤ w'.heap.size ∧ ∀ (i : Nat) (cs : Array Value) (t : TypeId), i ≠ g → t ≠ 5 → w.heap[i]? = some (.cells cs t (0, 0)) → w'.heap[i]? = some (.cells cs t (0, 0))
theorem Oth.refl (w : World) (g : Nat) : Oth w w g := ⟨Nat.le_refl _, fun _ _ _ _ _ h => h⟩
theorem Oth.trans {a b c : World} {g : Nat} (h : Oth a b g) (k : Oth b c g) : Oth a c g := ⟨Nat.le_trans h.1 k.1, fun i cs t hi ht hw => k.2 i cs t hi ht (h.2 i cs t hi ht hw)⟩
theorem Oth.below {a b : World} {g : Nat} (h : Below a.heap.size a b) : Oth a b g := ⟨h.size, fun i cs t _ _ hw => (h.block i (blk_lt hw)).trans hw⟩
theorem Oth.grown {a b : World} {g : Nat} {base : Nat} {ok : Nat → Prop} {v : Value} {l : List Int} (hO : Kd.R (Kd.int .u8) 5 a base ok v l) (hg : a.grownBy b v.ownBlock) : Oth a b g := by
  refine ⟨hg.size, fun i cs t _ ht hw => (hg.block i (blk_lt hw) ?_).trans hw⟩
  intro e
  obtain ⟨cells, hcell⟩ := own_typed (Kd.own_of_R (enc := Value.int .u8) (h1 := fun _ => rfl) hO) i e.symm
  rw [hw] at hcell
  injection hcell with hcell
  injection hcell with _ ht2
  exact ht ht2
theorem Oth.set {a : World} {g : Nat} (j : Nat) (u : Value) : Oth a (a.setCell ⟨g, j, none⟩ u) g := by
  refine ⟨by simp [World.setCell], fun i cs t hi _ hw => (Below.heap_setCell a ⟨g, j, none⟩ u i hi).trans hw⟩
theorem BldI.below {w0 w w' : World} {g : Nat} {rows : Int} {last : ByteArray} {b p : List Int} (h : BldI w0 w g rows last b p) (hb : Below w.heap.size w w') : BldI w0 w' g rows last b p := by
  obtain ⟨h1, h2, vb, vp, h3, h4, h5, h6⟩ := h
  exact ⟨h1, below_step h2 hb, vb, vp, (hb.block g (blk_lt h3)).trans h3, Kd.R_below h4 hb, Kd.R_below h5 hb, h6⟩
theorem ne_after {w : World} {v v1 u : Value} (hlt : ∀ k, u.ownBlock = some k → k < w.heap.size) (hat : v1.ownBlock = v.ownBlock ∨ ∃ b, v1.ownBlock = some b ∧ w.heap.size ≤ b) (h : ∀ k, v.ownBlock = some k → u.ownBlock ≠ some k) : ∀ k, v1.ownBlock = some k → u.ownBlock ≠ some k := by
  intro k hk hu
  rcases hat with hat | ⟨b, hb, hle⟩
  · exact h k (hat ▸ hk) hu
  · rw [hb] at hk
    injection hk with hk
    have := hlt k hu
    omega
theorem ne_sym {u v : Value} (h : ∀ k, u.ownBlock = some k → v.ownBlock ≠ some k) : ∀ k, v.ownBlock = some k → u.ownBlock ≠ some k := fun k hv hu => h k hu hv
/-- A row that is not the one grown. -/
theorem R_beside {w w1 : World} {base e : Nat} {ok : Nat → Prop} {u v : Value} {l : List Int} (h : Kd.R (Kd.int .u8) e w base ok u l) (hg : w.grownBy w1 v.ownBlock) (hn : ∀ k, u.ownBlock = some k → v.ownBlock ≠ some k) : Kd.R (Kd.int .u8) e w1 base ok u l := by
  have hown := Kd.own_of_R (enc := Value.int .u8) (h1 := fun _ => rfl) h
  exact Kd.R_of_own (own_move hown (fun k hk => hg.block k (own_lt hown k hk) (fun e => hn k hk e.symm))) h.1
/-- The row b grown, and stored. -/
theorem BldI.set_b {w0 w w1 : World} {g : Nat} {rows : Int} {last : ByteArray} {b p b1 : List Int} {vx vb vp v1 : Value} (hge : w0.heap.size ≤ g) (hB : Below w0.heap.size w0 w1) (hc : w.heap[g]? = some (.cells #[.int .i64 rows, .string last, vx, vp] 111 (0, 0))) (hb : Kd.R (Kd.int .u8) 5 w w0.heap.size (fun k => k ≠ g) vb b) (hp : Kd.R (Kd.int .u8) 5 w w0.heap.size (fun k => k ≠ g) vp p) (hn : ∀ k, vb.ownBlock = some k → vp.ownBlock ≠ some k)
    (h1 : Kd.R (Kd.int .u8) 5 w1 w0.heap.size (fun k => k ≠ g) v1 b1) (hg : w.grownBy w1 vb.ownBlock) (hat : v1.ownBlock = vb.ownBlock ∨ ∃ b, v1.ownBlock = some b ∧ w.heap.size ≤ b) :
    BldI w0 (w1.setCell ⟨g, 2, none⟩ v1) g rows last b1 p := by
  have hc1 : w1.heap[g]? = _ := (hg.block g (blk_lt hc) (Kd.R_away hb (fun _ h => h))).trans hc
  exact ⟨hge, below_set hB hge, v1, vp, by simpa using blk_set hc1 2 v1, Kd.R_far (p := ⟨g, 2, none⟩) h1 (fun _ hk => hk) _, Kd.R_far (p := ⟨g, 2, none⟩) (R_beside hp hg (ne_sym hn)) (fun _ hk => hk) _, ne_after (Kd.R_lt hp) hat hn⟩
theorem BldI.set_p {w0 w w1 : World} {g : Nat} {rows : Int} {last : ByteArray} {b p p1 : List Int} {vb vx vp v1 : Value} (hge : w0.heap.size ≤ g) (hB : Below w0.heap.size w0 w1) (hc : w.heap[g]? = some (.cells #[.int .i64 rows, .string last, vb, vx] 111 (0, 0))) (hb : Kd.R (Kd.int .u8) 5 w w0.heap.size (fun k => k ≠ g) vb b) (hp : Kd.R (Kd.int .u8) 5 w w0.heap.size (fun k => k ≠ g) vp p) (hn : ∀ k, vb.ownBlock = some k → vp.ownBlock ≠ some k)
    (h1 : Kd.R (Kd.int .u8) 5 w1 w0.heap.size (fun k => k ≠ g) v1 p1) (hg : w.grownBy w1 vp.ownBlock) (hat : v1.ownBlock = vp.ownBlock ∨ ∃ b, v1.ownBlock = some b ∧ w.heap.size ≤ b) :
    BldI w0 (w1.setCell ⟨g, 3, none⟩ v1) g rows last b p1 := by
  have hc1 : w1.heap[g]? = _ := (hg.block g (blk_lt hc) (Kd.R_away hp (fun _ h => h))).trans hc
  exact ⟨hge, below_set hB hge, vb, v1, by simpa using blk_set hc1 3 v1, Kd.R_far (p := ⟨g, 3, none⟩) (R_beside hb hg hn) (fun _ hk => hk) _, Kd.R_far (p := ⟨g, 3, none⟩) h1 (fun _ hk => hk) _, ne_sym (ne_after (Kd.R_lt hb) hat (ne_sym hn))⟩
theorem BldI.set_0 {w0 w : World} {g : Nat} {rows : Int} {last : ByteArray} {b p : List Int} (h : BldI w0 w g rows last b p) (x : Int) : BldI w0 (w.setCell ⟨g, 0, none⟩ (.int .i64 x)) g x last b p := by
  obtain ⟨h1, h2, vb, vp, h3, h4, h5, h6⟩ := h
  exact ⟨h1, below_set h2 h1, vb, vp, by simpa using blk_set h3 0 (.int .i64 x), Kd.R_far (p := ⟨g, 0, none⟩) h4 (fun _ hk => hk) _, Kd.R_far (p := ⟨g, 0, none⟩) h5 (fun _ hk => hk) _, h6⟩
theorem BldI.set_1 {w0 w : World} {g : Nat} {rows : Int} {last : ByteArray} {b p : List Int} (h : BldI w0 w g rows last b p) (x : ByteArray) : BldI w0 (w.setCell ⟨g, 1, none⟩ (.string x)) g rows x b p := by
  obtain ⟨h1, h2, vb, vp, h3, h4, h5, h6⟩ := h
  exact ⟨h1, below_set h2 h1, vb, vp, by simpa using blk_set h3 1 (.string x), Kd.R_far (p := ⟨g, 1, none⟩) h4 (fun _ hk => hk) _, Kd.R_far (p := ⟨g, 1, none⟩) h5 (fun _ hk => hk) _, h6⟩
set_option maxHeartbeats 8000000 in
set_option maxRecDepth 100000 in
theorem block_Add_no.calls (w0 w : World) (g : Nat) (rows : Int) (last key value : ByteArray) (b p : List Int) (hI : BldI w0 w g rows last b p) (h1 : 0 < rows) (h2 : Op.bytesLess last.toList key.toList = false) :
    Calls Try.prog 40 #[.pointer (some ⟨g, 0, none⟩), .string key, .string value] w fun e w' => e = .returned (.bool false) ∧ w' = w := by
  obtain ⟨hge, hB, vb, vp, hC, hO, hP, hn⟩ := hI
  have h0 : w.cell? ⟨g, 0, none⟩ = some (.int .i64 rows) := (blk_cell hC 0).trans rfl
  have hl : w.cell? ⟨g, 1, none⟩ = some (.string last) := (blk_cell hC 1).trans rfl
  clear hB hC hO hP hn
  have hu63 := Try.underlying63
  have hr : (0 < rows) = True := eq_true h1
  have hle : binOp .leq 9 (.string key) (.string last) = pure (.bool true) := by rw [binOp_string_leq_, h2]; rfl
  clear h2 h1
  go_enter Try.func40, Try.ntmps40
  go_wp2
  go_ret
  exact ⟨rfl, rfl⟩
end Go.Proofs.Ytoglanahjlfihaa.MBlk
