import Derived.Test.YtoglanahjlfihaaHBlk4
namespace Go.Proofs.Ytoglanahjlfihaa.MBlk
open Go.RowKit Go.Proofs.YtoglanahjlfihaaW.PrintWords Go.Proofs.YtoglanahjlfihaaW.PrintLast Go.Proofs.YtoglanahjlfihaaW.PrintMore
set_option linter.unusedVariables false
set_option linter.unusedSimpArgs false
set_option maxHeartbeats 8000000 in
set_option maxRecDepth 100000 in
theorem block_Bytes.calls (k : Nat) (w0 w : World) (g : Nat) (rows : Int) (last : ByteArray) (b p f32 : List Int) (hI : BldI w0 w g rows last b p) (hf : varint_Put32.f k ((p.length : Int) / 4 % 4294967296) = some f32) (hb0 : b.length < 100000000000) (hp0 : p.length < 100000000000) (hf0 : f32.length < 100000) :
    Calls Try.prog 41 #[.pointer (some ⟨g, 0, none⟩)] w fun e w' => ∃ v, e = .returned v ∧ Kd.R (Kd.int .u8) 5 w' w.heap.size (fun _ => True) v (b ++ p ++ f32) ∧ BldI w0 w' g rows last b p ∧ Below w.heap.size w w' := by
  have HI := Aside0.mk hI
  have HF := Aside0.mk hf
  obtain ⟨hge, hB, vb, vp, hC, hO, hP, hn⟩ := id hI
  obtain ⟨Ab, cb, e1⟩ := Kd.R_slice hO
  obtain ⟨Ap, cp, e2⟩ := Kd.R_slice hP
  subst e1; subst e2
  have h2 : w.cell? ⟨g, 2, none⟩ = some (.slice Ab b.length cb) := (blk_cell hC 2).trans rfl
  have h3 : w.cell? ⟨g, 3, none⟩ = some (.slice Ap p.length cp) := (blk_cell hC 3).trans rfl
  have HC := Aside0.mk hC
  have HOb := Aside0.mk hO
  have HOp := Aside0.mk hP
  clear hB hC hO hP hn hI hf
  have hu63 := Try.underlying63
  go_enter Try.func41, Try.ntmps41
  go_wp2_with (fail)
  go_region_law (first
    | (go_simp; go_at_call 67; (with_reducible refine (bytes_Clone.calls Ab cb b _ (Kd.C_drew (Kd.R_reads' HOb.out).2.2) (Kd.R_reads' HOb.out).2.1 (by omega)).mono ?_); rintro e w' ⟨v0, rfl, ho, hb⟩; obtain ⟨A2, c2, e2⟩ := Kd.R_slice ho; subst e2; have HB2 := Aside0.mk (below_step (below_drew1 (Below.refl w.heap.size w)) hb); have HO2 := Aside0.mk ho; have HP2 := Aside0.mk (Kd.C_below (Kd.C_drew (Kd.R_reads' HOp.out).2.2) hb); have HC2 := Aside0.mk ((hb.block g (blk_lt HC.out)).trans HC.out); have h32 : w'.cell? ⟨g, 3, none⟩ = some (.slice Ap p.length cp) := (blk_cell HC2.out 3).trans rfl; clear ho hb)
    | (refine Kd.R_append_rows_step (Kd.int .u8) (w0 := w) w.heap.size (by rfl) (.tmp 10) (.tmp 14) 28 5 (.int .u8 0) 1 rfl Try.underlying28 info5 rfl (by decide) (by omega) (.slice A2 b.length c2) b p _ _ _ (fun _ => True) (fun _ => False) (by rfl) (by rfl) ?aO ?aR (fun _ _ h => h) (fun _ h => h.elim) ?aF ?aB ?aS ?aL ?_; (case aO => exact HO2.out); (case aR => exact HP2.out); (case aF => exact fun i hi => trivial); (case aB => exact HB2.out); (case aS => exact below_size HB2.out); (case aL => omega); intro v1 w1 ho1 hb1 hg1 hat; obtain ⟨A3, c3, e3⟩ := Kd.R_slice ho1; obtain ⟨nl, hnl⟩ : ∃ nl, Aside0 (nl = (b ++ p).length) := ⟨_, ⟨rfl⟩⟩; rw [← hnl.out] at e3; subst e3; have HO3 := Aside0.mk ho1; have HB3 := Aside0.mk hb1; have HC3 := Aside0.mk ((hb1.block g (blk_lt HC.out)).trans HC.out); have h33 : w1.cell? ⟨g, 3, none⟩ = some (.slice Ap p.length cp) := (blk_cell HC3.out 3).trans rfl; clear ho1 hb1 hg1 hat))
  all_goals
    have hwd : IntKind.i64.wrap (((p.length : Int)).tdiv 4) = (((p.length : Int)).tdiv 4) := (i64_w _).trans (by rw [Int.tdiv_eq_ediv_of_nonneg (by omega)]; unfold wrap64; omega)
    go_wp2_with (fail)
    refine (varint_Put32.calls k _ f32 _ HF.out).mono ?_
    rintro e w2 ⟨v2, rfl, ho, hb⟩
    obtain ⟨A4, c4, e4⟩ := Kd.R_slice ho
    subst e4
    have HB4 := Aside0.mk (below_step HB3.out hb)
    have HO4 := Aside0.mk (Kd.R_below HO3.out hb)
    have HP4 := Aside0.mk (Kd.R_reads' ho).2.2
    clear ho hb h2 h3 h32 h33 hwd
    go_wp2_with (first | ((with_reducible refine gate_builtin (b := .append) (xs := #[.tmp 16, .tmp 24]) rfl ?_); at_builtin; refine Kd.R_append_rows (Kd.int .u8) (w0 := w) w.heap.size rfl (.tmp 16) (.tmp 24) 28 5 (.int .u8 0) 1 rfl Try.underlying28 info5 rfl (by decide) (by omega) (.slice A3 nl c3) (b ++ p) f32 A4 f32.length c4 (fun _ => True) (fun _ => False) rfl rfl ?aO ?aR (fun _ _ h => h) (fun _ h => h.elim) ?aF ?aB ?aS ?aL ?_; (case aO => exact HO4.out); (case aR => exact HP4.out); (case aF => exact (fun _ _ => trivial)); (case aB => exact HB4.out); (case aS => exact below_size HB4.out); (case aL => rw [List.length_append]; omega); intro v5 w5 ho5 hb5 hg5 hat5; have HO5 := Aside0.mk ho5; have HB5 := Aside0.mk hb5; clear ho5 hb5 hg5 hat5))
    go_ret
    exact ⟨_, rfl, HO5.out, HI.out.below HB5.out, HB5.out⟩
end Go.Proofs.Ytoglanahjlfihaa.MBlk
