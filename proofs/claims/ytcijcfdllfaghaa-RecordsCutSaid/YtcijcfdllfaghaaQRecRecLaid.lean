/- Records: what the reference lays, and the law's own Laid. -/
import Derived.Test.YtcijcfdllfaghaaMRecx0
import Derived.Test.YtcijcfdllfaghaaMRecx4
import Derived.Test.YtcijcfdllfaghaaMRecx5
import Derived.Test.YtcijcfdllfaghaaQRecRecBegun
import Derived.Test.YtcijcfdllfaghaaQRecRFix
namespace Go.Proofs.Ytcijcfdllfaghaa.QRec
open Go.RowKit Go.Proofs.Ytcijcfdllfaghaa.MRec Go.Proofs.Ytcijcfdllfaghaa.QRec Go.Proofs.YtcijcfdllfaghaaW.PrintWords Go.Proofs.YtcijcfdllfaghaaW.PrintLast Go.Proofs.YtcijcfdllfaghaaW.PrintMore
set_option linter.unusedVariables false
set_option linter.unusedSimpArgs false
theorem rAppend_l0 : ∀ (m a : Nat) (b out : List Int) (first : Bool), meas a b = m → Bytes b → a + b.length + 13 * (m + 1) ≤ 1099511627776 → out.length + b.length + 13 * (m + 1) ≤ 1099511627776 →
    Ev (fun k => incipitref10_Append.l0 k (a : Int) b out first) (out ++ app a b first) := by
  intro m
  induction m using Nat.strongRecOn with
  | _ m ih =>
  intro a b out first hm hb ha ho
  have hp := placeN_le a
  have hpm := placeN_mod a
  generalize hn : min (cap (placeN a)) b.length = n
  have hnb : n ≤ b.length := by omega
  have hn249 : n ≤ 249 := by unfold cap at hn; omega
  have htl : (b.take n).length = n := by rw [List.length_take]; omega
  have he := app_eq (first := first) hn
  rw [he]
  generalize hkd : kindN first (decide (n = b.length)) = kd
  have hkr : 1 ≤ kd ∧ kd ≤ 4 := hkd ▸ kindN_range _ _
  have hbb := body_bytes hkr (hb.take n)
  have hbl : (body kd (b.take n)).length = 3 + n := by rw [body_length, htl]
  have hfl := fix_length 4 (sum (body kd (b.take n)))
  have ebody : [(n : Int) % 256, ((n : Int) / 256) % 256, kd] ++ b.take n = body kd (b.take n) := by unfold body; rw [htl]
  -- behind the head
  have h3 : Ev (fun k => incipitref10_Append.j3 k (placeN a : Int) b (out ++ List.replicate (placeN a - a) 0) (n : Int) (decide (n = b.length)) kd) (out ++ (List.replicate (placeN a - a) 0 ++ (pieceB kd (b.take n) ++ (if h : n = b.length then [] else app (placeN a + 7 + n) (b.drop n) false)))) := by
    refine Ev.succ ?_
    simp only [incipitref10_Append.j3, Option.bind_some]
    refine Ev.ite_pos (by omega) (Ev.ite_pos (by omega) ?_)
    rw [Int.toNat_natCast]
    refine Ev.ite_pos (by simp; omega) ?_
    rw [ebody]
    refine Ev.bind (rSum_ev hbb (by omega)) ?_
    rw [u64_id (by omega) (by have := sum_lt hbb; omega)]
    refine Ev.bind (rFixed_ev _ 4 (by omega)) ?_
    refine Ev.ite_pos (by simp [hfl]; omega) (Ev.ite_pos (by simp [hfl, hbl]; omega) ?_)
    have e2 : out ++ List.replicate (placeN a - a) 0 ++ fix (sum (body kd (b.take n))) 4 ++ body kd (b.take n) = out ++ (List.replicate (placeN a - a) 0 ++ pieceB kd (b.take n)) := by simp [pieceB]
    rw [e2]
    by_cases c : n = b.length
    · rw [dif_pos c]
      refine Ev.ite_pos (by simp [c]) ?_
      rw [List.append_nil]; exact Ev.now _
    · rw [dif_neg c]
      refine Ev.ite_neg (by simp [c]) ?_
      rw [wrap64_id (n := 7 + (n : Int)) (by omega) (by omega), wrap64_id (by omega) (by omega)]
      have hlt := meas_lt (a := a) (b := b) (n := n) hn.symm c
      have := ih _ (hm ▸ hlt) (placeN a + 7 + n) (b.drop n) (out ++ (List.replicate (placeN a - a) 0 ++ pieceB kd (b.take n))) false rfl (hb.drop n)
        (by rw [List.length_drop]; omega)
        (by rw [List.length_drop]; simp only [List.length_append, List.length_replicate, pieceB_length, htl]; omega)
      rw [show ((placeN a : Int) + (7 + (n : Int))) = ((placeN a + 7 + n : Nat) : Int) by omega]
      simp only [List.append_assoc] at this ⊢
      exact this
  have h1 : Ev (fun k => incipitref10_Append.j1 k (placeN a : Int) b (out ++ List.replicate (placeN a - a) 0) first (256 - (placeN a % 256 : Nat) : Int)) (out ++ (List.replicate (placeN a - a) 0 ++ (pieceB kd (b.take n) ++ (if h : n = b.length then [] else app (placeN a + 7 + n) (b.drop n) false)))) := by
    have emn : mn (b.length : Int) (wrap64 ((256 - (placeN a % 256 : Nat) : Int) - 7)) = (n : Int) := by
      rw [wrap64_id (by omega) (by omega)]; unfold mn; unfold cap at hn; split <;> omega
    have hdec : ((n : Int) == (b.length : Int)) = decide (n = b.length) := by
      by_cases c : n = b.length
      · rw [c]; simp
      · rw [decide_eq_false c]; simp; omega
    refine Ev.succ ?_
    simp only [incipitref10_Append.j1, emn, hdec]
    cases first with
    | true =>
      refine Ev.ite_pos rfl (Ev.succ ?_)
      simp only [incipitref10_Append.j2]
      by_cases c : n = b.length
      · rw [decide_eq_true c] at hkd h3 ⊢
        subst hkd
        exact Ev.ite_pos rfl h3
      · rw [decide_eq_false c] at hkd h3 ⊢
        subst hkd
        exact Ev.ite_neg (by simp) (Ev.ite_pos trivial h3)
    | false =>
      refine Ev.ite_neg (by simp) (Ev.succ ?_)
      simp only [incipitref10_Append.j2]
      refine Ev.ite_neg (by simp) (Ev.ite_neg (by simp) ?_)
      by_cases c : n = b.length
      · rw [decide_eq_true c] at hkd h3 ⊢
        subst hkd
        exact Ev.ite_pos rfl h3
      · rw [decide_eq_false c] at hkd h3 ⊢
        subst hkd
        exact Ev.ite_neg (by simp) h3
  refine Ev.succ ?_
  simp only [incipitref10_Append.l0]
  rw [Int.tmod_eq_emod_of_nonneg (by omega), wrap64_id (n := 256 - (a : Int) % 256) (by omega) (by omega)]
  by_cases c : a % 256 > 249
  · have ep : placeN a = a + (256 - a % 256) := by unfold placeN; rw [if_pos c]
    refine Ev.ite_pos (by omega) (Ev.ite_pos (by omega) (Ev.ite_pos (by omega) ?_))
    rw [wrap64_id (by omega) (by omega), show ((a : Int) + (256 - (a : Int) % 256)) = (placeN a : Int) by omega, show (256 - (a : Int) % 256).toNat = placeN a - a by omega]
    have e0 : (256 - (placeN a % 256 : Nat) : Int) = 256 := by omega
    rw [e0] at h1
    exact h1
  · have ep : placeN a = a := by unfold placeN; rw [if_neg c]
    refine Ev.ite_neg (by omega) ?_
    rw [ep, Nat.sub_self, List.replicate_zero, List.append_nil] at h1
    rw [ep, Nat.sub_self, List.replicate_zero]
    rw [show (256 - (a : Int) % 256) = (256 - (a % 256 : Nat) : Int) by omega]
    exact h1
theorem rAppend_ev {a : Nat} {b : List Int} (hb : Bytes b) (ha : a + 27 * b.length + 26 ≤ 1099511627776) : Ev (fun k => incipitref10_Append.f k (a : Int) b) (app a b true) := by
  unfold incipitref10_Append.f
  have h : meas a b ≤ 2 * b.length + 1 := by unfold meas; split <;> omega
  exact rAppend_l0 _ a b [] true rfl hb (by omega) (by simp; omega)

/-- What a law's records are. -/
def Recs (l : List (List Int)) : Prop := ∀ b ∈ l, Bytes b ∧ b.length ≤ 700
theorem Recs.read {l : List (List Int)} (h : Recs l) : ∀ b ∈ l, Bytes b ∧ b.length ≤ 100000 := fun b hb => ⟨(h b hb).1, by have := (h b hb).2; omega⟩
theorem lay_le : ∀ (l : List (List Int)) (a : Nat), Recs l → (lay a l).length ≤ 18926 * l.length
  | [], _, _ => by simp [lay]
  | b :: t, a, h => by
    have h1 := lay_le t (a + (app a b true).length) (fun x hx => h x (List.mem_cons_of_mem _ hx))
    have h2 := app_le a b true
    have h3 := (h b (List.mem_cons_self ..)).2
    simp only [lay, List.length_append, List.length_cons]; omega
theorem lay_bytes : ∀ (l : List (List Int)) (a : Nat), Recs l → Bytes (lay a l)
  | [], _, _ => by intro c hc; cases hc
  | b :: t, a, h => Bytes.append (app_bytes _ a b true rfl (h b (List.mem_cons_self ..)).1) (lay_bytes t _ (fun x hx => h x (List.mem_cons_of_mem _ hx)))
theorem lay_snoc (l : List (List Int)) (b : List Int) : lay 0 (l ++ [b]) = lay 0 l ++ app (lay 0 l).length b true := by
  rw [lay_append, Nat.zero_add]; simp [lay]
theorem bytes_set {l : List Int} (h : Bytes l) (i : Nat) {v : Int} (hv : 0 ≤ v ∧ v < 256) : Bytes (l.set i v) := by
  intro c hc
  rcases List.mem_or_eq_of_mem_set hc with hc | rfl
  · exact h c hc
  · exact hv
theorem zeros_bytes (n : Nat) : Bytes (List.replicate n 0) := fun c hc => by rw [List.mem_replicate] at hc; omega

theorem Laid_l0 (sizes fill : List Int) (n : Nat) (hn : n ≤ 20) (hs : sizes.length ≤ 4611686018427387904) (hf : Bytes fill) (hfl : fill.length ≤ 1000) (d : Nat) : ∀ (recs : List (List Int)), n - recs.length = d → recs.length ≤ n → Recs recs →
    ∃ R, Recs R ∧ R.length ≤ n ∧ Ev (fun k => incipitlaw11_Laid.l0 k sizes fill (n : Int) (lay 0 recs) recs (recs.length : Int)) (lay 0 R, R) := by
  have hstop : ∀ (recs : List (List Int)), Ev (fun k => incipitlaw11_Laid.j1 k sizes fill (n : Int) (lay 0 recs) recs (recs.length : Int) false) (lay 0 recs, recs) := by
    intro recs
    refine Ev.succ ?_
    simp only [incipitlaw11_Laid.j1]
    exact Ev.ite_neg (by simp) (Ev.now _)
  induction d with
  | zero =>
    intro recs hd hi hr
    refine ⟨recs, hr, hi, Ev.succ ?_⟩
    simp only [incipitlaw11_Laid.l0]
    by_cases c : (recs.length : Int) < (sizes.length : Int)
    · refine Ev.ite_pos c ?_
      rw [decide_eq_false (by omega)]
      exact hstop recs
    · exact Ev.ite_neg c (hstop recs)
  | succ d ih =>
    intro recs hd hi hr
    by_cases c : (recs.length : Int) < (sizes.length : Int)
    · -- one record more
      have hlog := lay_le recs 0 hr
      have hgo : ∀ y, Bytes y → y.length ≤ 700 → ∃ R, Recs R ∧ R.length ≤ n ∧ Ev (fun k => (incipitref10_Append.f k ((lay 0 recs).length : Int) y).bind fun t => (if (lay 0 recs).length + t.length < 140737488355328 then (if recs.length < 5864062014805 then (incipitlaw11_Laid.l0 k sizes fill (n : Int) (lay 0 recs ++ t) (recs ++ [y]) (wrap64 ((recs.length : Int) + 1))) else (none)) else (none))) (lay 0 R, R) := by
        intro y hy hyl
        have hr' : Recs (recs ++ [y]) := by
          intro b hb
          rcases List.mem_append.1 hb with hb | hb
          · exact hr b hb
          · rw [List.mem_singleton.1 hb]; exact ⟨hy, hyl⟩
        obtain ⟨R, h1, h2, h3⟩ := ih (recs ++ [y]) (by simp; omega) (by simp; omega) hr'
        refine ⟨R, h1, h2, Ev.bind (rAppend_ev hy (by omega)) ?_⟩
        have ha := app_le (lay 0 recs).length y true
        refine Ev.ite_pos (by omega) (Ev.ite_pos (by omega) ?_)
        rw [wrap64_id (by omega) (by omega), ← lay_snoc]
        rw [List.length_append, List.length_singleton] at h3
        exact h3
      have hl1 : ∀ (m : Nat), m ≤ 700 → ∀ (d2 j : Nat) (y : List Int), m - j = d2 → j ≤ m → Bytes y → y.length = m → ∃ R, Recs R ∧ R.length ≤ n ∧ Ev (fun k => incipitlaw11_Laid.l1 k sizes fill (n : Int) (lay 0 recs) recs (recs.length : Int) (m : Int) y (j : Int)) (lay 0 R, R) := by
        intro m hm d2
        induction d2 with
        | zero =>
          intro j y hd2 hj hy hyl
          obtain ⟨R, h1, h2, h3⟩ := hgo y hy (by omega)
          refine ⟨R, h1, h2, Ev.succ ?_⟩
          simp only [incipitlaw11_Laid.l1]
          exact Ev.ite_neg (by omega) h3
        | succ d2 ih2 =>
          intro j y hd2 hj hy hyl
          by_cases cf : (fill.length : Int) > 0
          · have ht : Int.tmod (wrap64 ((recs.length : Int) + (j : Int))) (fill.length : Int) = (((recs.length + j) % fill.length : Nat) : Int) := by
              rw [wrap64_id (by omega) (by omega), Int.tmod_eq_emod_of_nonneg (by omega)]; simp
            have hlt : (recs.length + j) % fill.length < fill.length := Nat.mod_lt _ (by omega)
            generalize (recs.length + j) % fill.length = q at *
            obtain ⟨R, h1, h2, h3⟩ := ih2 (j + 1) (y.set j (fill.getD q 0)) (by omega) (by omega) (bytes_set hy _ (hf.getD q)) (by rw [List.length_set]; exact hyl)
            refine ⟨R, h1, h2, Ev.succ ?_⟩
            simp only [incipitlaw11_Laid.l1, ht, rd_nat, Int.toNat_natCast]
            refine Ev.ite_pos (by omega) (Ev.ite_pos cf (Ev.ite_neg (by omega) (Ev.ite_pos (by omega) (Ev.ite_pos (by omega) (Ev.ite_pos (by omega) (Ev.ite_pos (by omega) ?_))))))
            rw [wrap64_id (n := (j : Int) + 1) (by omega) (by omega)]
            exact h3
          · obtain ⟨R, h1, h2, h3⟩ := hgo y hy (by omega)
            refine ⟨R, h1, h2, Ev.succ ?_⟩
            simp only [incipitlaw11_Laid.l1]
            exact Ev.ite_pos (by omega) (Ev.ite_neg cf h3)
      have hj2 : ∀ (m : Nat), m ≤ 700 → ∃ R, Recs R ∧ R.length ≤ n ∧ Ev (fun k => incipitlaw11_Laid.j2 k sizes fill (n : Int) (lay 0 recs) recs (recs.length : Int) (m : Int)) (lay 0 R, R) := by
        intro m hm
        obtain ⟨R, h1, h2, h3⟩ := hl1 m hm _ 0 (List.replicate m 0) rfl (by omega) (zeros_bytes m) (by rw [List.length_replicate])
        refine ⟨R, h1, h2, Ev.succ ?_⟩
        simp only [incipitlaw11_Laid.j2]
        refine Ev.ite_pos (by omega) (Ev.ite_pos (by omega) ?_)
        rw [Int.toNat_natCast]
        exact h3
      have ht1 := Int.tmod_lt_of_pos (rd sizes (recs.length : Int)) (show (0 : Int) < 700 by decide)
      have ht2 := Int.lt_tmod_of_pos (rd sizes (recs.length : Int)) (show (0 : Int) < 700 by decide)
      generalize htm : Int.tmod (rd sizes (recs.length : Int)) 700 = tm at *
      have hj1 : ∃ R, Recs R ∧ R.length ≤ n ∧ Ev (fun k => incipitlaw11_Laid.j1 k sizes fill (n : Int) (lay 0 recs) recs (recs.length : Int) true) (lay 0 R, R) := by
        by_cases cn : tm < 0
        · obtain ⟨R, h1, h2, h3⟩ := hj2 (-tm).toNat (by omega)
          refine ⟨R, h1, h2, Ev.succ ?_⟩
          simp only [incipitlaw11_Laid.j1, htm]
          refine Ev.ite_pos trivial (Ev.ite_pos (by omega) (Ev.ite_pos c (Ev.ite_pos cn ?_)))
          rw [wrap64_id (by omega) (by omega), show -tm = ((-tm).toNat : Int) by omega]
          exact h3
        · obtain ⟨R, h1, h2, h3⟩ := hj2 tm.toNat (by omega)
          refine ⟨R, h1, h2, Ev.succ ?_⟩
          simp only [incipitlaw11_Laid.j1, htm]
          refine Ev.ite_pos trivial (Ev.ite_pos (by omega) (Ev.ite_pos c (Ev.ite_neg cn ?_)))
          rw [show tm = (tm.toNat : Int) by omega]
          exact h3
      obtain ⟨R, h1, h2, h3⟩ := hj1
      refine ⟨R, h1, h2, Ev.succ ?_⟩
      simp only [incipitlaw11_Laid.l0]
      refine Ev.ite_pos c ?_
      rw [decide_eq_true (by omega)]
      exact h3
    · refine ⟨recs, hr, hi, Ev.succ ?_⟩
      simp only [incipitlaw11_Laid.l0]
      exact Ev.ite_neg c (hstop recs)
theorem Laid_ev {sizes fill : List Int} {n : Nat} (hn : n ≤ 20) (hs : sizes.length ≤ 4611686018427387904) (hf : Bytes fill) (hfl : fill.length ≤ 1000) :
    ∃ R, Recs R ∧ R.length ≤ n ∧ Ev (fun k => incipitlaw11_Laid.f k sizes fill (n : Int)) (lay 0 R, R) :=
  Laid_l0 sizes fill n hn hs hf hfl _ [] rfl (by simp) (by intro b hb; cases hb)

theorem same_l0 (l : List (List Int)) (hl : l.length ≤ 1000) (d : Nat) : ∀ i : Nat, l.length - i = d → i ≤ l.length → Ev (fun k => incipitlaw11_same.l0 k l l (i : Int)) true := by
  induction d with
  | zero =>
    intro i hd hi
    refine Ev.succ ?_
    simp only [incipitlaw11_same.l0]
    exact Ev.ite_neg (by omega) (Ev.now _)
  | succ d ih =>
    intro i hd hi
    refine Ev.succ ?_
    simp only [incipitlaw11_same.l0]
    refine Ev.ite_pos (by omega) (Ev.ite_pos (by omega) (Ev.ite_pos (by omega) (Ev.ite_pos trivial ?_)))
    rw [wrap64_id (by omega) (by omega)]
    exact ih (i + 1) (by omega) (by omega)
theorem same_ev {l : List (List Int)} (hl : l.length ≤ 1000) : Ev (fun k => incipitlaw11_same.f k l l) true := by
  unfold incipitlaw11_same.f
  exact Ev.ite_pos rfl (same_l0 l hl _ 0 rfl (by omega))
theorem rd_L1_nat (l : List (List Int)) (i : Nat) : rd_L1 l (i : Int) = l.getD i [] := by unfold rd_L1; rw [Int.toNat_natCast]
theorem take_snoc (l : List (List Int)) (i : Nat) (h : i < l.length) : l.take (i + 1) = l.take i ++ [l.getD i []] := by
  rw [List.take_succ_eq_append_getElem h, List.getD_eq_getElem?_getD, List.getElem?_eq_getElem h]; rfl
theorem Recs.getD {l : List (List Int)} (h : Recs l) (i : Nat) : Bytes (l.getD i []) ∧ (l.getD i []).length ≤ 700 := by
  rw [List.getD_eq_getElem?_getD]
  by_cases hi : i < l.length
  · rw [List.getElem?_eq_getElem hi]; exact h _ (List.getElem_mem hi)
  · rw [List.getElem?_eq_none (by omega)]; exact ⟨(by intro c hc; cases hc), (by simp)⟩
theorem Recs.take {l : List (List Int)} (h : Recs l) (n : Nat) : Recs (l.take n) := fun b hb => h b (List.mem_of_mem_take hb)
theorem bytes_of_wf {l : List Int} (h : ∀ x ∈ l, (Lit.int .u8 x).wf = true) : Bytes l := fun c hc => by
  have := h c hc
  simp [Lit.wf, IntKind.min, IntKind.max, IntKind.signed, IntKind.bits] at this
  omega
end Go.Proofs.Ytcijcfdllfaghaa.QRec
