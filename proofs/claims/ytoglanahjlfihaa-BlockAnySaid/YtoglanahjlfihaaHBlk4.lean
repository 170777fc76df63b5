import Derived.Test.YtoglanahjlfihaaHBlk1
namespace Go.Proofs.Ytoglanahjlfihaa.MBlk
open Go.RowKit Go.Proofs.YtoglanahjlfihaaW.PrintWords Go.Proofs.YtoglanahjlfihaaW.PrintLast Go.Proofs.YtoglanahjlfihaaW.PrintMore
set_option linter.unusedVariables false
set_option linter.unusedSimpArgs false
set_option maxHeartbeats 8000000 in
set_option maxRecDepth 100000 in
theorem block_Add_nil.calls (s1 s2 : ByteArray) (w : World) : Calls Try.prog 40 #[.pointer none, .string s1, .string s2] w fun e w' => e = .returned (.bool false) ∧ w' = w := by
  have hu63 := Try.underlying63
  go_enter Try.func40, Try.ntmps40
  go_wp2
  go_ret
  exact ⟨rfl, rfl⟩
set_option maxHeartbeats 8000000 in
set_option maxRecDepth 100000 in
theorem block_Size_nil.calls (w : World) : Calls Try.prog 45 #[.pointer none] w fun e w' => e = .returned (.int .i64 0) ∧ w' = w := by
  have hu63 := Try.underlying63
  go_enter Try.func45, Try.ntmps45
  go_wp2
  go_ret
  exact ⟨rfl, rfl⟩
set_option maxHeartbeats 8000000 in
set_option maxRecDepth 100000 in
theorem block_Bytes_nil.calls (w : World) : Calls Try.prog 41 #[.pointer none] w fun e w' => e = .returned (.slice none 0 0) ∧ w' = w := by
  have hu63 := Try.underlying63
  go_enter Try.func41, Try.ntmps41
  go_wp2
  go_ret
  exact ⟨rfl, rfl⟩
set_option maxHeartbeats 8000000 in
set_option maxRecDepth 100000 in
theorem block_Size_.calls (w : World) (g : Nat) (rows : Int) (last : ByteArray) (Ab : Option Addr) (lb cb : Nat) (Ap : Option Addr) (lp cp : Nat)
    (hg : w.heap[g]? = some (.cells #[.int .i64 rows, .string last, .slice Ab lb cb, .slice Ap lp cp] 111 (0, 0))) :
    Calls Try.prog 45 #[.pointer (some ⟨g, 0, none⟩)] w fun e w' => e = .returned (.int .i64 (wrap64 (wrap64 ((lb : Int) + lp) + 4))) ∧ ∃ n, w' = w.drewN n := by
  have hu63 := Try.underlying63
  have hu111 := Try.underlying111
  have h2 : w.cell? ⟨g, 2, none⟩ = some (.slice Ab lb cb) := (blk_cell hg 2).trans rfl
  have h3 : w.cell? ⟨g, 3, none⟩ = some (.slice Ap lp cp) := (blk_cell hg 3).trans rfl
  clear hg
  go_enter Try.func45, Try.ntmps45
  go_wp2
  go_quiet (fail)
  go_wp2
  go_ret
  exact ⟨rfl, _, rfl⟩
theorem block_Size.calls (w0 w : World) (g : Nat) (rows : Int) (last : ByteArray) (b p : List Int) (hI : BldI w0 w g rows last b p) (hb : b.length < 1000000000000) (hp : p.length < 1000000000000) :
    Calls Try.prog 45 #[.pointer (some ⟨g, 0, none⟩)] w fun e w' => e = .returned (.int .i64 ((b.length : Int) + p.length + 4)) ∧ BldI w0 w' g rows last b p ∧ Below w.heap.size w w' := by
  obtain ⟨hge, hB, vb, vp, hC, hO, hP, hn⟩ := id hI
  obtain ⟨Ab, cb, e1⟩ := Kd.R_slice hO
  obtain ⟨Ap, cp, e2⟩ := Kd.R_slice hP
  subst e1; subst e2
  refine (block_Size_.calls w g rows last Ab b.length cb Ap p.length cp hC).mono ?_
  rintro e w' ⟨rfl, n, rfl⟩
  refine ⟨?_, hI.below (pw_below_drewN (Below.refl _ _) n), pw_below_drewN (Below.refl _ _) n⟩
  congr 2
  unfold wrap64
  omega
set_option maxHeartbeats 8000000 in
set_option maxRecDepth 100000 in
theorem bytes_Clone.calls (A : Option Addr) (c : Nat) (l : List Int) (w : World) (hr : Kd.C (Kd.int .u8) w A l.length l) (hc : l.length ≤ c) (hl : l.length ≤ 140737488355328) :
    Calls Try.prog 67 #[.slice A l.length c] w fun e w' => ∃ v, e = .returned v ∧ Kd.R (Kd.int .u8) 5 w' w.heap.size (fun _ => True) v l ∧ Below w.heap.size w w' := by
  have HR := Aside0.mk hr
  have HL := Aside0.mk hl
  clear hr hl
  cases A with
  | none =>
    have hl0 : l = [] := by
      obtain ⟨h1, _⟩ := HR.out
      cases l with
      | nil => rfl
      | cons x t => obtain ⟨_, h, _⟩ := Kd.at_int HR.out 0 (by omega) (by simp only [List.length_cons]; omega); cases h
    subst hl0
    have he : ∀ W, (binOp .eql 28 (.slice none 0 c) (.slice none 0 0)).run Try.prog W = .ok (.bool true) W := fun _ => by rfl
    go_enter Try.func67, Try.ntmps67
    go_wp2
    go_ret
    exact ⟨_, rfl, Kd.R_nil _ _ _ _ _, Below.refl _ _⟩
  | some ad =>
    have he : ∀ W, (binOp .eql 28 (.slice (some ad) l.length c) (.slice none 0 0)).run Try.prog W = .ok (.bool false) W := fun _ => by rfl
    go_enter Try.func67, Try.ntmps67
    go_wp2_with (first | ((with_reducible refine gate_builtin (b := .append) (xs := #[.tmp 5, .tmp 6]) rfl ?_); at_builtin; refine Kd.R_append_rows (Kd.int .u8) (w0 := w) w.heap.size rfl (.tmp 5) (.tmp 6) 28 5 (.int .u8 0) 1 rfl Try.underlying28 info5 rfl (by decide) (by omega) (.slice (some ⟨w.heap.size, 0, none⟩) 0 0) [] l (some ad) l.length c (fun _ => True) (fun _ => False) rfl rfl ?aO ?aR (fun _ _ h => h) (fun _ h => h.elim) ?aF ?aB ?aS ?aL ?_; (case aO => exact Kd.R_of_own (enc := Value.int .u8) (h1 := fun _ => rfl) (xs := []) (World.ownsRow_made w #[] 0 (Nat.le_refl _) (by simp [maxLen]) rfl) (fun _ _ => trivial)); (case aR => exact Kd.C_alloc HR.out _); (case aF => exact (fun _ _ => trivial)); (case aB => exact below_alloc (Below.refl _ _) _); (case aS => simp); (case aL => have := HL.out; simp only [List.length_nil]; omega); intro v1 w1 ho1 hb1 hg1 hat1; have HO1 := Aside0.mk ho1; have HB1 := Aside0.mk hb1; clear ho1 hb1 hg1 hat1))
    go_ret
    exact ⟨_, rfl, HO1.out, HB1.out⟩
end Go.Proofs.Ytoglanahjlfihaa.MBlk
