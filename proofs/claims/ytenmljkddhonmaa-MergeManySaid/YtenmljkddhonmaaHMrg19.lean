import Derived.Test.YtenmljkddhonmaaHMrg18
import Derived.Laws.EntriesVeiled
import Derived.Outline
namespace Go.Proofs.Ytenmljkddhonmaa.MMrg
open Go.RowKit Go.Proofs.Ytenmljkddhonmaa.QMrg Go.Proofs.YtenmljkddhonmaaW.PrintWords Go.Proofs.YtenmljkddhonmaaW.PrintLast Go.Proofs.YtenmljkddhonmaaW.PrintMore
set_option linter.unusedVariables false
set_option linter.unusedSimpArgs false
/-! texts of two letters -/
def two (i : Nat) : ByteArray := strOfNums [97 + (i : Int) / 26, 97 + (i : Int) % 26]
theorem two_list (i : Nat) (h : i < 200) : (two i).toList = [UInt8.ofNat (97 + i / 26), UInt8.ofNat (97 + i % 26)] := by
  rw [Lib.toList_data]
  unfold two strOfNums
  simp only [List.map_cons, List.map_nil]
  rw [show (97 + (i : Int) / 26).toNat = 97 + i / 26 by omega, show (97 + (i : Int) % 26).toNat = 97 + i % 26 by omega]
theorem u8lt {a b : Nat} (ha : a < 256) (hb : b < 256) : (UInt8.ofNat a < UInt8.ofNat b) ↔ a < b := by
  rw [UInt8.lt_iff_toNat_lt, UInt8.toNat_ofNat', UInt8.toNat_ofNat', Nat.mod_eq_of_lt ha, Nat.mod_eq_of_lt hb]
theorem u8eq {a b : Nat} (ha : a < 256) (hb : b < 256) : (UInt8.ofNat a = UInt8.ofNat b) ↔ a = b := by
  rw [← UInt8.toNat_inj, UInt8.toNat_ofNat', UInt8.toNat_ofNat', Nat.mod_eq_of_lt ha, Nat.mod_eq_of_lt hb]
theorem bl_two (i j : Nat) (hi : i < 200) (hj : j < 200) : Op.bytesLess (two i).toList (two j).toList = decide (i < j) := by
  rw [two_list i hi, two_list j hj]
  have h1 := u8lt (a := 97 + i / 26) (b := 97 + j / 26) (by omega) (by omega)
  have h2 := u8lt (a := 97 + i % 26) (b := 97 + j % 26) (by omega) (by omega)
  have h3 := u8eq (a := 97 + i / 26) (b := 97 + j / 26) (by omega) (by omega)
  rw [Bool.eq_iff_iff]
  simp only [Op.bytesLess, Bool.or_eq_true, Bool.and_eq_true, decide_eq_true_eq, beq_iff_eq, h1, h2, h3, Bool.false_eq_true, and_false, or_false]
  omega
theorem two_conv {W : World} {i g : Nat} (h : W.heap[g]? = some (.cells #[Value.int IntKind.u8 (97 + (i : Int) / 26), Value.int IntKind.u8 (97 + (i : Int) % 26)] 5 (0, 0))) : (convert 43 9 (.slice (some ⟨g, 0, none⟩) 2 2)).run Try.prog W = .ok (.string (two i)) W := by
  refine run_convert_bytes_arg _ 43 5 Try.underlying43 Try.underlying5 g 0 2 2 [97 + (i : Int) / 26, 97 + (i : Int) % 26] rfl (fun j hj => ?_) 9 Try.underlying9
  have h0 : j = 0 ∨ j = 1 := by have hj : j < 2 := hj; omega
  rcases h0 with rfl | rfl
  · show W.cell? ⟨g, 0, none⟩ = _
    rw [blk_cell h 0]; rfl
  · show W.cell? ⟨g, 1, none⟩ = _
    rw [blk_cell h 1]; rfl
/-- Which list the i-th goes to. -/
def kf (D : List Int) (i : Nat) : Nat := ((D.getD (i % D.length) 0).tmod 6).natAbs
theorem kf_lt (D : List Int) (i : Nat) : kf D i < 6 := by
  unfold kf
  have := Int.natAbs_tmod (D.getD (i % D.length) 0) 6
  rw [this]
  exact Nat.mod_lt _ (by decide)
def mE (D : List Int) (i : Nat) : S28 := ⟨two i, (kf D i : Int), 0, ⟨#[]⟩, ⟨#[]⟩⟩
def Zm (D : List Int) (n : Nat) : List (S28 × Nat) := (List.range n).map (fun i => (mE D i, kf D i))
/-- The k-th list behind i numbers. -/
def Lm (D : List Int) (n k : Nat) : List S28 := ((Zm D n).filter (fun x => decide (x.2 = k))).map Prod.fst
theorem Zm_succ (D : List Int) (n : Nat) : Zm D (n + 1) = Zm D n ++ [(mE D n, kf D n)] := by unfold Zm; rw [List.range_succ, List.map_append]; rfl
theorem Lm_succ (D : List Int) (n k : Nat) : Lm D (n + 1) k = if k = kf D n then Lm D n k ++ [mE D n] else Lm D n k := by
  unfold Lm
  rw [Zm_succ, List.filter_append, List.map_append]
  by_cases h : k = kf D n
  · rw [if_pos h]
    simp [h]
  · rw [if_neg h]
    simp [Ne.symm h]
theorem Zm_len (D : List Int) (n : Nat) : (Zm D n).length = n := by unfold Zm; rw [List.length_map, List.length_range]
theorem Lm_len (D : List Int) (n k : Nat) : (Lm D n k).length ≤ n := by
  unfold Lm
  rw [List.length_map]
  exact Nat.le_trans (List.length_filter_le _ _) (by rw [Zm_len]; exact Nat.le_refl _)
theorem Zm_pair (D : List Int) (n : Nat) (hn : n ≤ 120) : (Zm D n).Pairwise (fun x y => x.2 ≠ y.2 → lessH x.1 x.2 y.1 y.2 = true) := by
  unfold Zm
  rw [List.pairwise_map, List.pairwise_iff_getElem]
  intro i j hi hj hij _
  rw [List.length_range] at hi hj
  rw [List.getElem_range, List.getElem_range]
  have h1 := bl_two i j (by omega) (by omega)
  rw [decide_eq_true hij] at h1
  have hne : (two i).toList ≠ (two j).toList := fun e => by rw [e, bl_irrefl] at h1; cases h1
  unfold lessH
  have hs : same3 (mE D i) (mE D j) = false := by
    unfold same3 mE
    rw [decide_eq_false_iff_not]
    exact fun h => hne h.1
  rw [hs, if_neg (by decide)]
  unfold ltE mE
  simp only
  rw [if_neg hne]
  exact h1
/-- Six lists, each one's own. -/
structure Six (w : World) (base gl : Nat) (v : Nat → Value) (L : Nat → List S28) : Prop where
  blk : w.heap[gl]? = some (.cells ((List.range 6).map v).toArray 24 (0, 0))
  rows : ∀ k, k < 6 → k28.R 28 w base (fun _ => True) (v k) (L k)
  apart : ∀ j k, j < 6 → k < 6 → j ≠ k → NeRow (v j) (v k)
theorem Six.below {w w' : World} {base gl : Nat} {v : Nat → Value} {L : Nat → List S28} (h : Six w base gl v L) (hb : Below w.heap.size w w') : Six w' base gl v L := ⟨blk_below h.blk hb, fun k hk => Kd.R_below (h.rows k hk) hb, h.apart⟩
theorem Six.cell {w : World} {base gl : Nat} {v : Nat → Value} {L : Nat → List S28} (h : Six w base gl v L) {k : Nat} (hk : k < 6) : w.cell? ⟨gl, k, none⟩ = some (v k) ∧ w.frozen? ⟨gl, k, none⟩ = false := by
  refine ⟨?_, blk_frozen h.blk k⟩
  rw [blk_cell h.blk, List.getElem?_toArray, List.getElem?_map, List.getElem?_range hk]; rfl
theorem map_set6 (v : Nat → Value) (k : Nat) (u : Value) : ((List.range 6).map v).set k u = (List.range 6).map (fun j => if j = k then u else v j) := by
  apply List.ext_getElem?
  intro i
  rw [List.getElem?_set, List.getElem?_map, List.getElem?_map, List.length_map, List.length_range]
  by_cases h : i < 6
  · rw [List.getElem?_range h]
    by_cases hk : k = i
    · subst hk; rw [if_pos rfl, if_pos h]; simp
    · rw [if_neg hk]; simp [Ne.symm hk]
  · rw [List.getElem?_eq_none (by rw [List.length_range]; omega)]
    by_cases hk : k = i
    · subst hk; rw [if_pos rfl, if_neg h]; rfl
    · rw [if_neg hk]; rfl
/-- One of the lists grew, and was stored. -/
theorem Six.put {w W w1 : World} {base gl k : Nat} {v : Nat → Value} {L : Nat → List S28} {v1 : Value} {x : S28} (h : Six w base gl v L) (hk : k < 6) (hW : Below w.heap.size w W) (hg : W.grownBy w1 (v k).ownBlock) (hat : v1.ownBlock = (v k).ownBlock ∨ ∃ b, v1.ownBlock = some b ∧ W.heap.size ≤ b) (hr : k28.R 28 w1 base (fun _ => True) v1 (L k ++ [x])) : Six (w1.setCell ⟨gl, k, none⟩ v1) base gl (fun j => if j = k then v1 else v j) (fun j => if j = k then L k ++ [x] else L j) := by
  have hWS := h.below hW
  have hrk := hWS.rows k hk
  have hb1 : w1.heap[gl]? = some (.cells ((List.range 6).map v).toArray 24 (0, 0)) := blk_grown hWS.blk hg (Kd.R_ne hrk hWS.blk (by decide))
  have hK1 : Kept w1 (w1.setCell ⟨gl, k, none⟩ v1) (fun i => i = gl) := Kept.setCell (S := fun i => i = gl) (p := ⟨gl, k, none⟩) (Kept.refl _ _) (.inl rfl) _
  have hty : ∀ i, i = gl → i < w1.heap.size → ∃ cs t, w1.heap[i]? = some (.cells cs t (0, 0)) ∧ ∀ q, q ∈ 28 :: k28.E → q ≠ t := fun i hi _ => by
    subst hi
    exact ⟨_, _, hb1, by intro q hq; simp [k28, Kd.iso, Kd.pair, Kd.string, Kd.int, Kd.scalar] at hq; subst hq; decide⟩
  refine ⟨?_, fun j hj => ?_, fun i j hi hj hij => ?_⟩
  · have := blk_set hb1 k v1
    rw [List.setIfInBounds_toArray, map_set6] at this
    exact this
  · by_cases hjk : j = k
    · subst hjk
      simp only [if_true]
      exact R_kept hr hK1 hty
    · simp only [if_neg hjk]
      refine R_kept ?_ hK1 hty
      exact k28_R_ok (Kd.R_grown (k28_R_ok (ok' := fun b => some b ≠ (v k).ownBlock) (hWS.rows j hj) (fun b hb he => hWS.apart j k hj hk hjk b hb he.symm)) hg (fun _ hb => hb)) (fun _ _ => trivial)
  · have hne : ∀ j, j < 6 → j ≠ k → NeRow v1 (v j) := by
      intro j hj hjk b hb hb'
      rcases hat with hat | ⟨b2, hb2, hge⟩
      · exact hWS.apart k j hk hj (Ne.symm hjk) b (by rw [← hat]; exact hb) hb'
      · rw [hb] at hb2
        injection hb2 with hb2
        have := Kd.R_lt (hWS.rows j hj) b hb'
        omega
    by_cases hik : i = k
    · subst hik
      simp only [if_true, if_neg (Ne.symm hij)]
      exact hne j hj (Ne.symm hij)
    · by_cases hjk : j = k
      · subst hjk
        simp only [if_true, if_neg hik]
        exact ne_symm (hne i hi hik)
      · simp only [if_neg hik, if_neg hjk]
        exact hWS.apart i j hi hj hij
theorem Six.rowsC {w : World} {base gl : Nat} {v : Nat → Value} {L : Nat → List S28} (h : Six w base gl v L) : Kd.C (Kd.slice 28 k28) w (some ⟨gl, 0, none⟩) ((List.range 6).map L).length ((List.range 6).map L) := by
  refine lits_C ((List.range 6).map (fun k => [v k])) h.blk ?_ (by simp) (fun c hc => ?_) (fun j p c hj hc => ?_) (by simp)
  · have : ∀ l : List Nat, (l.map (fun k => [v k])).flatten = l.map v := by
      intro l
      induction l with
      | nil => rfl
      | cons a l ih => rw [List.map_cons, List.flatten_cons, ih]; rfl
    rw [this]
  · obtain ⟨k, _, rfl⟩ := List.mem_map.1 hc
    rfl
  · have hj6 : j < 6 := by
      have := (List.getElem?_eq_some_iff.1 hj).1
      simpa using this
    rw [List.getElem?_map, List.getElem?_range hj6] at hj hc
    injection hj with hj
    injection hc with hc
    subst hj; subst hc
    obtain ⟨A, c, e, hle, hC⟩ := Kd.R_reads (h.rows j hj6)
    exact ⟨A, c, by simp only [e], hle, hC⟩
def six0 : Array Value := ((List.range 6).map (fun _ => Value.slice none 0 0)).toArray
theorem make6 (W : World) : (Instr.makeSlice 22 (.int .i64 6) (.int .i64 6)).run Try.prog W = .ok (.slice (some ⟨W.heap.size, 0, none⟩) 6 6) (W.alloc (.cells six0 24)) := by
  have h := Go.run_make_row' (P := Try.prog) 22 24 (.slice none 0 0) 24 Try.underlying22 info24 rfl .i64 .i64 6 (by decide) (by decide) W
  have e : madeCells #[Value.slice none 0 0] 6 = six0 := by kernel_rfl
  rw [e] at h
  exact h
end Go.Proofs.Ytenmljkddhonmaa.MMrg
