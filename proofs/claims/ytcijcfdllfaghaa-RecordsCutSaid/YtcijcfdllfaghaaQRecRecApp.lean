/- Records: what reclog.Append comes to. -/
import Derived.Test.YtcijcfdllfaghaaMRecx1
import Derived.Test.YtcijcfdllfaghaaMRecx2
import Derived.Test.YtcijcfdllfaghaaQRecFix4
import Derived.Test.YtcijcfdllfaghaaQRecSum
namespace Go.Proofs.Ytcijcfdllfaghaa.QRec
open Go.RowKit Go.Proofs.Ytcijcfdllfaghaa.MRec Go.Proofs.Ytcijcfdllfaghaa.QRec Go.Proofs.YtcijcfdllfaghaaW.PrintWords Go.Proofs.YtcijcfdllfaghaaW.PrintLast Go.Proofs.YtcijcfdllfaghaaW.PrintMore
set_option linter.unusedVariables false
set_option linter.unusedSimpArgs false
/-- Where the next piece begins. -/
def placeN (a : Nat) : Nat := if a % 256 > 249 then a + (256 - a % 256) else a
/-- The room of a piece that begins at a place. -/
def cap (p : Nat) : Nat := 249 - p % 256
theorem placeN_mod (a : Nat) : placeN a % 256 ≤ 249 := by unfold placeN; split <;> omega
theorem placeN_le (a : Nat) : a ≤ placeN a ∧ placeN a ≤ a + 6 := by unfold placeN; split <;> omega
theorem placeN_zero {x : Nat} (h : x % 256 = 0) : placeN x = x := by unfold placeN; rw [if_neg (by omega)]
theorem place_ev {a : Nat} (h : a ≤ 4611686018427387904) : reclog_place.f (a : Int) = some (placeN a : Int) := by
  unfold reclog_place.f placeN
  rw [Int.tmod_eq_emod_of_nonneg (by omega), wrap64_id (n := 256 - (a : Int) % 256) (by omega) (by omega)]
  by_cases c : a % 256 > 249
  · rw [if_pos (by omega), if_pos c, wrap64_id (by omega) (by omega)]; congr 1; omega
  · rw [if_neg (by omega), if_neg c]
def kindN (b e : Bool) : Int := if b then (if e then 1 else 2) else (if e then 4 else 3)
theorem kind_ev (b e : Bool) : Ev (fun k => reclog_kind.f k b e) (kindN b e) := by
  cases b <;> cases e <;> exact Ev.of (reclog_kind.mono _ _) (k := 2) (by decide)
theorem kindN_range (b e : Bool) : 1 ≤ kindN b e ∧ kindN b e ≤ 4 := by cases b <;> cases e <;> decide
/-- A piece's body: its length, its kind, its bytes. -/
def body (kind : Int) (x : List Int) : List Int := [(x.length : Int) % 256, ((x.length : Int) / 256) % 256, kind] ++ x
/-- A piece. -/
def pieceB (kind : Int) (x : List Int) : List Int := fix (sum (body kind x)) 4 ++ body kind x
theorem body_length (kind : Int) (x : List Int) : (body kind x).length = 3 + x.length := by simp [body]; omega
theorem pieceB_length (kind : Int) (x : List Int) : (pieceB kind x).length = 7 + x.length := by simp [pieceB, body_length, fix_length]; omega
theorem body_bytes {kind : Int} {x : List Int} (hk : 1 ≤ kind ∧ kind ≤ 4) (hb : Bytes x) : Bytes (body kind x) := by
  refine Bytes.append ?_ hb
  intro c hc
  simp only [List.mem_cons, List.not_mem_nil, or_false] at hc
  rcases hc with rfl | rfl | rfl <;> omega
theorem pieceB_bytes {kind : Int} {x : List Int} (hk : 1 ≤ kind ∧ kind ≤ 4) (hb : Bytes x) : Bytes (pieceB kind x) := Bytes.append (fix_bytes 4 _) (body_bytes hk hb)

/-- How far a record's pieces go, at most. -/
def meas (a : Nat) (b : List Int) : Nat := 2 * b.length + (if cap (placeN a) = 0 then 1 else 0)
theorem meas_lt {a n : Nat} {b : List Int} (hn : n = min (cap (placeN a)) b.length) (h : n ≠ b.length) : meas (placeN a + 7 + n) (b.drop n) < meas a b := by
  have hm := placeN_mod a
  unfold meas
  rw [List.length_drop]
  have hc : n = cap (placeN a) ∧ n < b.length := by omega
  by_cases h0 : cap (placeN a) = 0
  · have e : placeN a % 256 = 249 := by unfold cap at h0; omega
    have e2 : cap (placeN (placeN a + 7 + n)) = 249 := by
      have : (placeN a + 7 + n) % 256 = 0 := by omega
      rw [placeN_zero this]; unfold cap; omega
    rw [if_pos h0, if_neg (by omega)]; omega
  · rw [if_neg h0]; split <;> omega

/-- What a record is laid as, behind so many bytes. -/
def app (a : Nat) (b : List Int) (first : Bool) : List Int :=
  List.replicate (placeN a - a) 0 ++ (pieceB (kindN first (decide (min (cap (placeN a)) b.length = b.length))) (b.take (min (cap (placeN a)) b.length)) ++
    (if h : min (cap (placeN a)) b.length = b.length then [] else app (placeN a + 7 + min (cap (placeN a)) b.length) (b.drop (min (cap (placeN a)) b.length)) false))
termination_by meas a b
decreasing_by exact meas_lt rfl h

theorem app_length : ∀ (m a : Nat) (b : List Int) (first : Bool), meas a b = m → (app a b first).length ≤ 13 * (m + 1) + b.length := by
  intro m
  induction m using Nat.strongRecOn with
  | _ m ih =>
  intro a b first hm
  rw [app]
  have hp := placeN_le a
  simp only [List.length_append, List.length_replicate, pieceB_length, List.length_take]
  split
  · simp; omega
  · rename_i h
    have hl := meas_lt rfl h
    have := ih _ (hm ▸ hl) (placeN a + 7 + min (cap (placeN a)) b.length) (b.drop (min (cap (placeN a)) b.length)) false rfl
    rw [List.length_drop] at this
    omega
theorem app_le (a : Nat) (b : List Int) (first : Bool) : (app a b first).length ≤ 27 * b.length + 26 := by
  have := app_length _ a b first rfl
  have h : meas a b ≤ 2 * b.length + 1 := by unfold meas; split <;> omega
  omega
theorem app_bytes : ∀ (m a : Nat) (b : List Int) (first : Bool), meas a b = m → Bytes b → Bytes (app a b first) := by
  intro m
  induction m using Nat.strongRecOn with
  | _ m ih =>
  intro a b first hm hb
  rw [app]
  refine Bytes.append (fun c hc => ?_) (Bytes.append (pieceB_bytes (kindN_range _ _) (hb.take _)) ?_)
  · rw [List.mem_replicate] at hc; omega
  · split
    · intro c hc; cases hc
    · rename_i h
      exact ih _ (hm ▸ meas_lt rfl h) _ _ _ rfl (hb.drop _)

theorem mn_cap {p n : Nat} (hp : p % 256 ≤ 249) (h : p ≤ 4611686018427387904) : mn (wrap64 ((wrap64 (256 - (Int.tmod (p : Int) 256))) - 7)) (n : Int) = ((min (cap p) n : Nat) : Int) := by
  rw [Int.tmod_eq_emod_of_nonneg (by omega), wrap64_id (n := 256 - (p : Int) % 256) (by omega) (by omega), wrap64_id (by omega) (by omega)]
  unfold mn cap; split <;> omega

theorem Append_l0 : ∀ (m a : Nat) (b out : List Int) (first : Bool), meas a b = m → Bytes b → a + b.length + 13 * (m + 1) ≤ 1099511627776 → out.length + b.length + 13 * (m + 1) ≤ 1099511627776 →
    Ev (fun k => reclog_Append.l0 k (a : Int) b out first) (out ++ app a b first) := by
  intro m
  induction m using Nat.strongRecOn with
  | _ m ih =>
  intro a b out first hm hb ha ho
  have hp := placeN_le a
  have hpm := placeN_mod a
  refine Ev.succ ?_
  simp only [reclog_Append.l0, Option.bind_some]
  refine Ev.bind (Ev.same (place_ev (a := a) (by omega))) ?_
  rw [wrap64_id (n := (placeN a : Int) - a) (by omega) (by omega), mn_cap hpm (by omega), show ((placeN a : Int) - a).toNat = placeN a - a by omega]
  generalize hn : min (cap (placeN a)) b.length = n
  have hnb : n ≤ b.length := by omega
  have hn249 : n ≤ 249 := by unfold cap at hn; omega
  have htl : (b.take n).length = n := by rw [List.length_take]; omega
  refine Ev.ite_pos (by omega) (Ev.ite_pos (by omega) ?_)
  have hdec : ((n : Int) == (b.length : Int)) = decide (n = b.length) := by
    by_cases c : n = b.length
    · rw [c]; simp
    · rw [decide_eq_false c]; simp; omega
  rw [hdec]
  refine Ev.bind (kind_ev first (decide (n = b.length))) ?_
  generalize hkd : kindN first (decide (n = b.length)) = kd
  have hkr : 1 ≤ kd ∧ kd ≤ 4 := hkd ▸ kindN_range _ _
  refine Ev.ite_pos (by omega) (Ev.ite_pos (by omega) ?_)
  rw [Int.toNat_natCast]
  have ebody : [(n : Int) % 256, ((n : Int) / 256) % 256, kd] ++ b.take n = body kd (b.take n) := by unfold body; rw [htl]
  have hbb := body_bytes hkr (hb.take n)
  refine Ev.ite_pos (by simp; omega) ?_
  rw [ebody]
  have hbl : (body kd (b.take n)).length = 3 + n := by rw [body_length, htl]
  refine Ev.bind (Sum_ev hbb (by omega)) (Ev.bind (Put32_ev (sum_lt hbb)) ?_)
  have hfl := fix_length 4 (sum (body kd (b.take n)))
  refine Ev.ite_pos (by simp [hfl]; omega) (Ev.ite_pos (by simp [hfl, hbl]; omega) ?_)
  have e2 : out ++ List.replicate (placeN a - a) 0 ++ fix (sum (body kd (b.take n))) 4 ++ body kd (b.take n) = out ++ (List.replicate (placeN a - a) 0 ++ pieceB kd (b.take n)) := by simp [pieceB]
  rw [e2]
  have eapp : out ++ app a b first = out ++ (List.replicate (placeN a - a) 0 ++ pieceB kd (b.take n)) ++ (if h : n = b.length then [] else app (placeN a + 7 + n) (b.drop n) false) := by
    rw [app]; simp only [hn, hkd, List.append_assoc]
  rw [eapp]
  by_cases c : n = b.length
  · rw [dif_pos c]
    refine Ev.ite_pos (by rw [List.length_drop]; omega) ?_
    rw [List.append_nil]; exact Ev.now _
  · rw [dif_neg c]
    refine Ev.ite_neg (by rw [List.length_drop]; omega) ?_
    rw [wrap64_id (n := 7 + (n : Int)) (by omega) (by omega), wrap64_id (by omega) (by omega)]
    have hlt := meas_lt (a := a) (b := b) (n := n) hn.symm c
    have := ih _ (hm ▸ hlt) (placeN a + 7 + n) (b.drop n) (out ++ (List.replicate (placeN a - a) 0 ++ pieceB kd (b.take n))) false rfl (hb.drop n)
      (by rw [List.length_drop]; omega)
      (by rw [List.length_drop]; simp only [List.length_append, List.length_replicate, pieceB_length, htl]; omega)
    rw [show ((placeN a : Int) + (7 + (n : Int))) = ((placeN a + 7 + n : Nat) : Int) by omega]
    exact this
theorem Append_ev {a : Nat} {b : List Int} (hb : Bytes b) (ha : a + 27 * b.length + 26 ≤ 1099511627776) : Ev (fun k => reclog_Append.f k (a : Int) b) (app a b true) := by
  unfold reclog_Append.f
  rw [show mx (a : Int) 0 = (a : Int) by unfold mx; split <;> omega]
  have h : meas a b ≤ 2 * b.length + 1 := by unfold meas; split <;> omega
  exact Append_l0 _ a b [] true rfl hb (by omega) (by simp; omega)
end Go.Proofs.Ytcijcfdllfaghaa.QRec
