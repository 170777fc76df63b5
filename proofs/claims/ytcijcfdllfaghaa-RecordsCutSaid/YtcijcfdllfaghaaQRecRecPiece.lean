/- Records: what reclog's piece comes to. -/
import Derived.Test.YtcijcfdllfaghaaMRecx3
import Derived.Test.YtcijcfdllfaghaaQRecRecApp
namespace Go.Proofs.Ytcijcfdllfaghaa.QRec
open Go.RowKit Go.Proofs.Ytcijcfdllfaghaa.MRec Go.Proofs.Ytcijcfdllfaghaa.QRec Go.Proofs.YtcijcfdllfaghaaW.PrintWords Go.Proofs.YtcijcfdllfaghaaW.PrintLast Go.Proofs.YtcijcfdllfaghaaW.PrintMore
set_option linter.unusedVariables false
set_option linter.unusedSimpArgs false
theorem or_zero : ∀ x : Fin 256, Go.bits .or .i64 (x.val : Int) 0 = (x.val : Int) := by decide +kernel
theorem or_zero' {n : Nat} (h : n < 256) : Go.bits .or .i64 (n : Int) 0 = (n : Int) := or_zero ⟨n, h⟩

/-- The ends of a piece's head, as the program reckons them. -/
theorem head_eqs {L : List Int} {p n : Nat} (hp : p ≤ 1099511627776) (hn : n ≤ 249) (h4 : L.getD (p + 4) 0 = (n : Int)) (h5 : L.getD (p + 5) 0 = 0) :
    wrap64 ((p : Int) + 4) = ((p + 4 : Nat) : Int) ∧ wrap64 (((p + 4 : Nat) : Int) + 1) = ((p + 5 : Nat) : Int) ∧ wrap64 ((p : Int) + 7) = ((p + 7 : Nat) : Int) ∧ wrap64 (((p + 7 : Nat) : Int) - 1) = ((p + 6 : Nat) : Int) ∧
    Go.bits .or .i64 (wrap64 (rd L ((p + 4 : Nat) : Int))) (wrap64 ((wrap64 (rd L ((p + 5 : Nat) : Int))) * 256)) = (n : Int) ∧
    wrap64 (((p + 7 : Nat) : Int) + (n : Int)) = ((p + 7 + n : Nat) : Int) ∧ wrap64 ((wrap64 ((Int.tmod (p : Int) 256) + 7)) + (n : Int)) = ((p % 256 + 7 + n : Nat) : Int) := by
  refine ⟨?_, ?_, ?_, ?_, ?_, ?_, ?_⟩
  · rw [wrap64_id (by omega) (by omega)]; omega
  · rw [wrap64_id (by omega) (by omega)]; omega
  · rw [wrap64_id (by omega) (by omega)]; omega
  · rw [wrap64_id (by omega) (by omega)]; omega
  · rw [rd_nat, rd_nat, h4, h5, wrap64_id (n := (n : Int)) (by omega) (by omega), wrap64_id (n := 0) (by omega) (by omega), wrap64_id (n := 0 * 256) (by omega) (by omega), Int.zero_mul]
    exact or_zero' (by omega)
  · rw [wrap64_id (by omega) (by omega)]; omega
  · rw [Int.tmod_eq_emod_of_nonneg (by omega), wrap64_id (n := (p : Int) % 256 + 7) (by omega) (by omega), wrap64_id (by omega) (by omega)]; omega

theorem piece_short {L : List Int} {p : Nat} (hp : p ≤ 2199023255552) (hl : L.length ≤ 1099511627776) (c : L.length < p + 7) : Ev (fun k => reclog_piece.f k L (p : Int)) (0, [], 1) := by
  unfold reclog_piece.f
  refine Ev.ite_pos (by rw [wrap64_id (by omega) (by omega)]; omega) (Ev.now _)
theorem piece_cut {L : List Int} {p n : Nat} (hp : p ≤ 1099511627776) (hl : L.length ≤ 1099511627776) (hn : n ≤ 249) (c : p + 7 ≤ L.length) (c2 : L.length < p + 7 + n) (h4 : L.getD (p + 4) 0 = (n : Int)) (h5 : L.getD (p + 5) 0 = 0) (h6 : p % 256 + 7 + n ≤ 256) :
    Ev (fun k => reclog_piece.f k L (p : Int)) (0, [], 1) := by
  unfold reclog_piece.f
  obtain ⟨e1, e2, e3, e4, e5, e6, e7⟩ := head_eqs hp hn h4 h5
  simp only [e1, e2, e3, e4, e5, e6, e7]
  clear e1 e2 e3 e4 e5 e6 e7 h4 h5
  refine Ev.ite_neg (by rw [wrap64_id (by omega) (by omega)]; omega) ?_
  refine Ev.ite_pos (by omega) (Ev.ite_pos (by omega) (Ev.ite_pos (by omega) (Ev.ite_pos (by omega) (Ev.ite_neg (by omega) (Ev.ite_pos (by omega) (Ev.now _))))))

theorem at_part {L y : List Int} {p m : Nat} (h : (L.drop p).take m = y) (i : Nat) (hi : i < m) : L.getD (p + i) 0 = y.getD i 0 := by
  rw [← h, List.getD_eq_getElem?_getD, List.getD_eq_getElem?_getD, List.getElem?_take, if_pos hi, List.getElem?_drop]
theorem pieceB_4 (kind : Int) (x : List Int) : (pieceB kind x).getD 4 0 = (x.length : Int) % 256 ∧ (pieceB kind x).getD 5 0 = ((x.length : Int) / 256) % 256 ∧ (pieceB kind x).getD 6 0 = kind := by
  unfold pieceB body
  simp only [fix, List.cons_append, List.nil_append, List.getD_cons_succ, List.getD_cons_zero, and_self]

theorem piece_good {L x : List Int} {p : Nat} {kind : Int} (hb : Bytes L) (hl : L.length ≤ 1099511627776) (hx : Bytes x) (hk : 1 ≤ kind ∧ kind ≤ 4) (h6 : p % 256 + 7 + x.length ≤ 256) (hlen : p + 7 + x.length ≤ L.length)
    (h : (L.drop p).take (7 + x.length) = pieceB kind x) : Ev (fun k => reclog_piece.f k L (p : Int)) (kind, x, 0) := by
  generalize hn : x.length = n at *
  have hn249 : n ≤ 249 := by omega
  obtain ⟨g4, g5, g6⟩ := pieceB_4 kind x
  have h4 : L.getD (p + 4) 0 = (n : Int) := by rw [at_part h 4 (by omega), g4, hn]; omega
  have h5 : L.getD (p + 5) 0 = 0 := by rw [at_part h 5 (by omega), g5, hn]; omega
  have h6' : L.getD (p + 6) 0 = kind := by rw [at_part h 6 (by omega), g6]
  unfold reclog_piece.f
  obtain ⟨e1, e2, e3, e4, e5, e6, e7⟩ := head_eqs (by omega) hn249 h4 h5
  simp only [e1, e2, e3, e4, e5, e6, e7]
  simp only [Int.toNat_natCast, rd_nat, h6']
  clear e1 e2 e3 e4 e5 e6 e7 h4 h5 h6' g4 g5 g6
  refine Ev.ite_neg (by rw [wrap64_id (by omega) (by omega)]; omega) ?_
  refine Ev.ite_pos (by omega) ?_
  refine Ev.ite_pos (by omega) ?_
  refine Ev.ite_pos (by omega) ?_
  refine Ev.ite_pos (by omega) ?_
  refine Ev.ite_neg (by omega) ?_
  refine Ev.ite_neg (by omega) ?_
  refine Ev.ite_pos (by omega) ?_
  refine Ev.ite_pos (by omega) ?_
  refine Ev.ite_neg (by omega) ?_
  refine Ev.ite_neg (by omega) ?_
  refine Ev.ite_pos (by omega) ?_
  refine Ev.ite_pos (by omega) ?_
  have hG := Get32_ev (l := L.drop p) (hb.drop p) (by rw [List.length_drop]; omega)
  have hbody : (L.take (p + 7 + n)).drop (p + 4) = body kind x := by
    have : (L.take (p + 7 + n)).drop (p + 4) = ((L.drop p).take (7 + n)).drop 4 := by
      rw [show p + 7 + n = p + (7 + n) by omega, List.drop_take, List.drop_take, List.drop_drop]
      congr 1; omega
    rw [this, h]; unfold pieceB
    rw [List.drop_append_of_le_length (by rw [fix_length]; omega), List.drop_of_length_le (by rw [fix_length]; omega), List.nil_append]
  have hxs : (L.take (p + 7 + n)).drop (p + 7) = x := by
    have : (L.take (p + 7 + n)).drop (p + 7) = ((L.take (p + 7 + n)).drop (p + 4)).drop 3 := by rw [List.drop_drop]
    rw [this, hbody]; unfold body; rfl
  have hsum : val256 ((L.drop p).take 4) = sum (body kind x) := by
    have : (L.drop p).take 4 = ((L.drop p).take (7 + n)).take 4 := by rw [List.take_take]; congr 1; omega
    rw [this, h]; unfold pieceB
    rw [List.take_append_of_le_length (by rw [fix_length]; omega), List.take_of_length_le (by rw [fix_length]; omega), val256_fix]
    exact Nat.mod_eq_of_lt (Nat.lt_of_lt_of_eq (sum_lt (body_bytes hk hx)) (by decide))
  rw [hsum] at hG
  refine Ev.bind hG (Ev.ite_pos (by omega) (Ev.ite_pos (by omega) ?_))
  rw [hbody, hxs]
  refine Ev.bind (Sum_ev (body_bytes hk hx) (by rw [body_length]; omega)) (Ev.ite_pos rfl (Ev.ite_pos (by omega) (Ev.ite_pos (by omega) (Ev.now _))))
end Go.Proofs.Ytcijcfdllfaghaa.QRec
