/- Records: what is laid is read again; what is cut off is told as cut off. -/
import Derived.Test.YtcijcfdllfaghaaMRecx3
import Derived.Test.YtcijcfdllfaghaaQRecRecPiece
namespace Go.Proofs.Ytcijcfdllfaghaa.QRec
open Go.RowKit Go.Proofs.Ytcijcfdllfaghaa.MRec Go.Proofs.Ytcijcfdllfaghaa.QRec Go.Proofs.YtcijcfdllfaghaaW.PrintWords Go.Proofs.YtcijcfdllfaghaaW.PrintLast Go.Proofs.YtcijcfdllfaghaaW.PrintMore
set_option linter.unusedVariables false
set_option linter.unusedSimpArgs false
theorem kindN_starts (f e : Bool) : (kindN f e = 1 → f = true) ∧ (kindN f e ≠ 1 → (kindN f e == 2) = f) ∧ (e = true → kindN f e = 1 ∨ kindN f e = 4) ∧ (e = false → kindN f e ≠ 1 ∧ kindN f e ≠ 4) := by
  cases f <;> cases e <;> decide

/-- The piece at a place is a good one: the record goes on. -/
theorem record_step {L x acc : List Int} {a n : Nat} {first e : Bool} {r : List Int × Int × Int} (ha : a ≤ 1099511627776) (hx : x.length = n) (hn : n ≤ 249) (hacc : acc.length + n ≤ 2199023255552)
    (hg : Ev (fun k => reclog_piece.f k L (placeN a : Int)) (kindN first e, x, 0))
    (h : if e = true then r = (acc ++ x, ((placeN a + 7 + n : Nat) : Int), 0) else Ev (fun k => reclog_record.l0 k L ((placeN a + 7 + n : Nat) : Int) (acc ++ x) false) r) :
    Ev (fun k => reclog_record.l0 k L (a : Int) acc first) r := by
  have hp := placeN_le a
  have hs := kindN_starts first e
  refine Ev.succ ?_
  simp only [reclog_record.l0]
  refine Ev.bind (Ev.same (place_ev (a := a) (by omega))) (Ev.bind hg (Ev.ite_pos rfl ?_))
  simp only
  have hw : wrap64 ((placeN a : Int) + (wrap64 (7 + (x.length : Int)))) = ((placeN a + 7 + n : Nat) : Int) := by
    rw [wrap64_id (n := 7 + (x.length : Int)) (by omega) (by omega), wrap64_id (by omega) (by omega)]; omega
  have hj : Ev (fun k => reclog_record.j1 k L (placeN a : Int) acc first (kindN first e) x first) r := by
    refine Ev.succ ?_
    simp only [reclog_record.j1, Option.bind_some, hw]
    refine Ev.ite_neg (by simp) (Ev.ite_pos (by omega) ?_)
    cases e with
    | true =>
      rw [if_pos rfl] at h
      subst h
      by_cases c1 : kindN first true = 1
      · exact Ev.ite_pos c1 (Ev.now _)
      · exact Ev.ite_neg c1 (Ev.ite_pos ((hs.2.2.1 rfl).resolve_left c1) (Ev.now _))
    | false =>
      rw [if_neg (by decide)] at h
      exact Ev.ite_neg (hs.2.2.2 rfl).1 (Ev.ite_neg (hs.2.2.2 rfl).2 h)
  by_cases c1 : kindN first e = 1
  · refine Ev.ite_pos c1 ?_
    rw [hs.1 c1] at hj ⊢
    exact hj
  · refine Ev.ite_neg c1 ?_
    rw [hs.2.1 c1]
    exact hj
theorem record_end {L acc : List Int} {a : Nat} {first : Bool} (ha : a ≤ 1099511627776) (hg : Ev (fun k => reclog_piece.f k L (placeN a : Int)) (0, [], 1)) :
    Ev (fun k => reclog_record.l0 k L (a : Int) acc first) ([], 0, 1) := by
  refine Ev.succ ?_
  simp only [reclog_record.l0]
  exact Ev.bind (Ev.same (place_ev (a := a) (by omega))) (Ev.bind hg (Ev.ite_neg (by simp) (Ev.now _)))

theorem app_eq {a n : Nat} {b : List Int} {first : Bool} (hn : min (cap (placeN a)) b.length = n) :
    app a b first = List.replicate (placeN a - a) 0 ++ (pieceB (kindN first (decide (n = b.length))) (b.take n) ++ (if h : n = b.length then [] else app (placeN a + 7 + n) (b.drop n) false)) := by
  subst hn; rw [app]

theorem record_good : ∀ (m a : Nat) (b acc pre post L : List Int) (first : Bool), meas a b = m → Bytes b → Bytes L → L = pre ++ (app a b first ++ post) → pre.length = a → L.length ≤ 1099511627776 → acc.length + b.length ≤ 1099511627776 →
    Ev (fun k => reclog_record.l0 k L (a : Int) acc first) (acc ++ b, ((a + (app a b first).length : Nat) : Int), 0) := by
  intro m
  induction m using Nat.strongRecOn with
  | _ m ih =>
  intro a b acc pre post L first hm hb hB hL hpre hlen hacc
  have hp := placeN_le a
  have hpm := placeN_mod a
  generalize hn : min (cap (placeN a)) b.length = n
  have hnb : n ≤ b.length := by omega
  have hn249 : n ≤ 249 ∧ placeN a % 256 + 7 + n ≤ 256 := by unfold cap at hn; omega
  have htl : (b.take n).length = n := by rw [List.length_take]; omega
  have he := app_eq (first := first) hn
  rw [he] at hL ⊢
  generalize hR : (if h : n = b.length then [] else app (placeN a + 7 + n) (b.drop n) false) = R at *
  have hLl : L.length = placeN a + 7 + n + R.length + post.length := by
    rw [hL]; simp only [List.length_append, List.length_replicate, pieceB_length, htl, hpre]; omega
  have hpiece : (L.drop (placeN a)).take (7 + n) = pieceB (kindN first (decide (n = b.length))) (b.take n) := by
    have e1 : L = (pre ++ List.replicate (placeN a - a) 0) ++ (pieceB (kindN first (decide (n = b.length))) (b.take n) ++ (R ++ post)) := by rw [hL]; simp only [List.append_assoc]
    have e2 : (pre ++ List.replicate (placeN a - a) (0 : Int)).length = placeN a := by simp only [List.length_append, List.length_replicate, hpre]; omega
    rw [e1, List.drop_append_of_le_length (by omega), List.drop_of_length_le (by omega), List.nil_append, List.take_append_of_le_length (by rw [pieceB_length, htl]; omega), List.take_of_length_le (by rw [pieceB_length, htl]; omega)]
  have hgood := piece_good (p := placeN a) (x := b.take n) hB hlen (hb.take n) (kindN_range first (decide (n = b.length))) (by rw [htl]; omega) (by rw [htl]; omega) (by rw [htl]; exact hpiece)
  refine record_step (n := n) (by omega) htl hn249.1 (by omega) hgood ?_
  have hal : a + (List.replicate (placeN a - a) (0 : Int) ++ (pieceB (kindN first (decide (n = b.length))) (b.take n) ++ R)).length = placeN a + 7 + n + R.length := by
    simp only [List.length_append, List.length_replicate, pieceB_length, htl]; omega
  rw [hal]
  by_cases c : n = b.length
  · rw [if_pos (by simp [c])]
    rw [dif_pos c] at hR
    subst hR
    rw [c, List.take_length]; simp
  · rw [if_neg (by simp [c])]
    rw [dif_neg c] at hR
    have := ih _ (hm ▸ meas_lt (a := a) (b := b) (n := n) hn.symm c) (placeN a + 7 + n) (b.drop n) (acc ++ b.take n) (pre ++ (List.replicate (placeN a - a) 0 ++ pieceB (kindN first (decide (n = b.length))) (b.take n))) post L false rfl (hb.drop n) hB
      (by rw [hL, hR]; simp only [List.append_assoc]) (by simp only [List.length_append, List.length_replicate, pieceB_length, htl, hpre]; omega) hlen (by rw [List.length_append, htl, List.length_drop]; omega)
    rw [List.append_assoc, List.take_append_drop, hR] at this
    exact this

theorem record_part : ∀ (m a c : Nat) (b acc pre L : List Int) (first : Bool), meas a b = m → Bytes b → Bytes L → L = pre ++ (app a b first).take c → c < (app a b first).length → pre.length = a → L.length ≤ 1099511627776 → acc.length + b.length ≤ 1099511627776 →
    Ev (fun k => reclog_record.l0 k L (a : Int) acc first) ([], 0, 1) := by
  intro m
  induction m using Nat.strongRecOn with
  | _ m ih =>
  intro a c b acc pre L first hm hb hB hL hc hpre hlen hacc
  have hp := placeN_le a
  have hpm := placeN_mod a
  generalize hn : min (cap (placeN a)) b.length = n
  have hnb : n ≤ b.length := by omega
  have hn249 : n ≤ 249 ∧ placeN a % 256 + 7 + n ≤ 256 := by unfold cap at hn; omega
  have htl : (b.take n).length = n := by rw [List.length_take]; omega
  have hLl : L.length = a + c := by rw [hL, List.length_append, List.length_take, hpre]; omega
  have he := app_eq (first := first) hn
  rw [he] at hL hc
  generalize hR : (if h : n = b.length then [] else app (placeN a + 7 + n) (b.drop n) false) = R at *
  generalize hkd : kindN first (decide (n = b.length)) = kd at *
  have hcl : c < placeN a - a + 7 + n + R.length := by simp only [List.length_append, List.length_replicate, pieceB_length, htl] at hc; omega
  by_cases c1 : L.length < placeN a + 7
  · exact record_end (by omega) (piece_short (by omega) hlen c1)
  have e1 : L = (pre ++ List.replicate (placeN a - a) 0) ++ (pieceB kd (b.take n) ++ R).take (c - (placeN a - a)) := by
    rw [hL, List.take_append, List.length_replicate, List.take_of_length_le (by rw [List.length_replicate]; omega), List.append_assoc]
  have e2 : (pre ++ List.replicate (placeN a - a) (0 : Int)).length = placeN a := by simp only [List.length_append, List.length_replicate, hpre]; omega
  have hdrop : L.drop (placeN a) = (pieceB kd (b.take n) ++ R).take (c - (placeN a - a)) := by
    rw [e1, List.drop_append_of_le_length (by omega), List.drop_of_length_le (by omega), List.nil_append]
  by_cases c2 : L.length < placeN a + 7 + n
  · obtain ⟨g4, g5, _⟩ := pieceB_4 kd (b.take n)
    have hget : ∀ i, i < 7 → L.getD (placeN a + i) 0 = (pieceB kd (b.take n)).getD i 0 := by
      intro i hi
      have h7 : (L.drop (placeN a)).take 7 = (pieceB kd (b.take n)).take 7 := by
        rw [hdrop, List.take_take, Nat.min_eq_left (by omega), List.take_append_of_le_length (by rw [pieceB_length]; omega)]
      rw [at_part h7 i hi, List.getD_eq_getElem?_getD, List.getD_eq_getElem?_getD, List.getElem?_take, if_pos hi]
    refine record_end (by omega) (piece_cut (n := n) (by omega) hlen hn249.1 (by omega) c2 ?_ ?_ hn249.2)
    · rw [hget 4 (by omega), g4, htl]; omega
    · rw [hget 5 (by omega), g5, htl]; omega
  · have hpiece : (L.drop (placeN a)).take (7 + n) = pieceB kd (b.take n) := by
      rw [hdrop, List.take_take, Nat.min_eq_left (by omega), List.take_append_of_le_length (by rw [pieceB_length, htl]; omega), List.take_of_length_le (by rw [pieceB_length, htl]; omega)]
    have hkr : 1 ≤ kd ∧ kd ≤ 4 := hkd ▸ kindN_range first (decide (n = b.length))
    have hgood := piece_good (p := placeN a) (x := b.take n) hB hlen (hb.take n) hkr (by rw [htl]; omega) (by rw [htl]; omega) (by rw [htl]; exact hpiece)
    have hne : n ≠ b.length := by
      intro h
      rw [dif_pos h] at hR
      subst hR
      simp at hcl; omega
    rw [dif_neg hne] at hR
    rw [← hkd] at hgood
    refine record_step (n := n) (e := decide (n = b.length)) (by omega) htl hn249.1 (by omega) hgood ?_
    rw [if_neg (by simp [hne])]
    refine ih _ (hm ▸ meas_lt (a := a) (b := b) (n := n) hn.symm hne) (placeN a + 7 + n) (c - (placeN a - a) - 7 - n) (b.drop n) (acc ++ b.take n) (pre ++ (List.replicate (placeN a - a) 0 ++ pieceB kd (b.take n))) L false rfl (hb.drop n) hB ?_ ?_ ?_ hlen ?_
    · rw [e1, List.take_append, pieceB_length, htl, List.take_of_length_le (by rw [pieceB_length, htl]; omega), hR]
      simp only [List.append_assoc]
      rw [show c - (placeN a - a) - (7 + n) = c - (placeN a - a) - 7 - n by omega]
    · rw [hR]; omega
    · simp only [List.length_append, List.length_replicate, pieceB_length, htl, hpre]; omega
    · rw [List.length_append, htl, List.length_drop]; omega

/-- Records one behind the other, from a place on. -/
def lay : Nat → List (List Int) → List Int
  | _, [] => []
  | a, b :: t => app a b true ++ lay (a + (app a b true).length) t
theorem lay_append : ∀ (l m : List (List Int)) (a : Nat), lay a (l ++ m) = lay a l ++ lay (a + (lay a l).length) m
  | [], m, a => by simp [lay]
  | b :: t, m, a => by
    simp only [List.cons_append, lay, lay_append t m, List.length_append, List.append_assoc, Nat.add_assoc]

theorem Read_l0 : ∀ (recs : List (List Int)) (a : Nat) (acc : List (List Int)) (pre tail L : List Int), (∀ b ∈ recs, Bytes b ∧ b.length ≤ 100000) → Bytes L → L = pre ++ (lay a recs ++ tail) → pre.length = a → L.length ≤ 1099511627776 → acc.length + recs.length ≤ 100000 →
    Ev (fun k => reclog_record.f k L ((a + (lay a recs).length : Nat) : Int)) ([], 0, 1) → Ev (fun k => reclog_Read.l0 k L acc (a : Int)) (acc ++ recs, ((a + (lay a recs).length : Nat) : Int), true)
  | [], a, acc, pre, tail, L, _, hB, hL, hpre, hlen, hacc, hend => by
    refine Ev.succ ?_
    simp only [reclog_Read.l0]
    simp only [lay, List.length_nil, Nat.add_zero, List.append_nil] at hend ⊢
    exact Ev.bind hend (Ev.ite_neg (by simp) (Ev.now _))
  | b :: t, a, acc, pre, tail, L, hb, hB, hL, hpre, hlen, hacc, hend => by
    obtain ⟨hb1, hb2⟩ := hb b (List.mem_cons_self ..)
    have hr : Ev (fun k => reclog_record.f k L (a : Int)) (b, ((a + (app a b true).length : Nat) : Int), 0) := by
      have := record_good _ a b [] pre (lay (a + (app a b true).length) t ++ tail) L true rfl hb1 hB (by rw [hL]; simp only [lay, List.append_assoc]) hpre hlen (by simp; omega)
      exact this
    refine Ev.succ ?_
    simp only [reclog_Read.l0]
    refine Ev.bind hr (Ev.ite_pos rfl (Ev.ite_pos (by simp at hacc; omega) ?_))
    have e3 : a + (lay a (b :: t)).length = a + (app a b true).length + (lay (a + (app a b true).length) t).length := by simp only [lay, List.length_append]; omega
    rw [e3] at hend ⊢
    have := Read_l0 t (a + (app a b true).length) (acc ++ [b]) (pre ++ app a b true) tail L (fun x hx => hb x (List.mem_cons_of_mem _ hx)) hB (by rw [hL]; simp only [lay, List.append_assoc]) (by rw [List.length_append, hpre]) hlen (by simp at hacc ⊢; omega) hend
    rw [List.append_assoc, List.singleton_append] at this
    exact this

theorem Read_whole {recs : List (List Int)} (hb : ∀ b ∈ recs, Bytes b ∧ b.length ≤ 100000) (hB : Bytes (lay 0 recs)) (hl : (lay 0 recs).length ≤ 1099511627776) (hr : recs.length ≤ 100000) :
    Ev (fun k => reclog_Read.f k (lay 0 recs)) (recs, ((lay 0 recs).length : Int), true) := by
  have := Read_l0 recs 0 [] [] [] (lay 0 recs) hb hB (by simp) rfl hl (by simpa using hr) (by
    have hp := placeN_le (0 + (lay 0 recs).length)
    exact record_end (by omega) (piece_short (by omega) hl (by omega)))
  rw [Nat.zero_add, List.nil_append] at this
  exact this
theorem Read_part {recs : List (List Int)} {b L : List Int} {c : Nat} (hb : ∀ b ∈ recs, Bytes b ∧ b.length ≤ 100000) (hb1 : Bytes b) (hb2 : b.length ≤ 100000) (hB : Bytes L) (hl : L.length ≤ 1099511627776) (hr : recs.length ≤ 100000)
    (hL : L = lay 0 recs ++ (app (lay 0 recs).length b true).take c) (hc : c < (app (lay 0 recs).length b true).length) :
    Ev (fun k => reclog_Read.f k L) (recs, ((lay 0 recs).length : Int), true) := by
  have := Read_l0 recs 0 [] [] ((app (lay 0 recs).length b true).take c) L hb hB (by rw [List.nil_append]; exact hL) rfl hl (by simpa using hr) (by
    rw [Nat.zero_add]
    exact record_part _ _ c b [] (lay 0 recs) L true rfl hb1 hB hL hc rfl hl (by simp; omega))
  rw [Nat.zero_add, List.nil_append] at this
  exact this
end Go.Proofs.Ytcijcfdllfaghaa.QRec
