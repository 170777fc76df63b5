import Derived.Test.YtoglanahjlfihaaHBlk18
namespace Go.Proofs.Ytoglanahjlfihaa.QBlk
open Go.RowKit Go.Proofs.Ytoglanahjlfihaa.MBlk Go.Proofs.YtoglanahjlfihaaW.PrintWords Go.Proofs.YtoglanahjlfihaaW.PrintLast Go.Proofs.YtoglanahjlfihaaW.PrintMore
set_option linter.unusedVariables false
set_option linter.unusedSimpArgs false
/-- One number. -/
def rg1 (b : List Int) : Option (Int × List Int) := if (get b).2 = 0 then none else some ((get b).1, b.drop (get b).2.toNat)
def rgN : Nat → List Int → List Int → Option (List Int × List Int)
  | 0, b, acc => some (acc, b)
  | n + 1, b, acc => (rg1 b).bind fun q => rgN n q.2 (acc ++ [q.1])
/-- The reference's rows. -/
def rfR : Nat → List Int → ByteArray → List S70 → Option (List S70)
  | 0, _, _, acc => some acc
  | f + 1, b, prev, acc => if b = [] then some acc else (rgN 3 b []).bind fun q =>
    if q.1.getD 0 0 > prev.size then none else if q.1.getD 1 0 > q.2.length then none else if q.1.getD 2 0 > (q.2.length : Int) - q.1.getD 1 0 then none else
      if 0 < acc.length ∧ Op.bytesLess prev.toList (prev.extract 0 (q.1.getD 0 0).toNat ++ strOfNums (q.2.take (q.1.getD 1 0).toNat)).toList = false then none else
      rfR f (q.2.drop ((q.1.getD 1 0).toNat + (q.1.getD 2 0).toNat)) (prev.extract 0 (q.1.getD 0 0).toNat ++ strOfNums (q.2.take (q.1.getD 1 0).toNat)) (acc ++ [⟨prev.extract 0 (q.1.getD 0 0).toNat ++ strOfNums (q.2.take (q.1.getD 1 0).toNat), strOfNums ((q.2.take ((q.1.getD 1 0).toNat + (q.1.getD 2 0).toNat)).drop (q.1.getD 1 0).toNat)⟩])
def refS (l : List Int) : Option (List S70) :=
  if l.length < 4 then none else if l.length < 4 * (cnt l + 1) then none else
    (rfR (l.length - 4 * (cnt l + 1)) (l.take (l.length - 4 * (cnt l + 1))) ⟨#[]⟩ []).bind fun r => if eqB (addTs St0 (r.map cv)).out l = true then some r else none
/-! The reference's rows are the program's. -/
def upB (s : St) : List S68 → Bool
  | [] => true
  | r :: t => addB s r.f0 && upB (addT s r.f0 r.f1) t
theorem addAll_up : ∀ (l : List S68) (s : St), (addAll l (true, s)).1 = upB s l
  | [], s => rfl
  | r :: t, s => by
    rw [addAll, upB]
    simp only [if_true]
    cases hb : addB s r.f0 with
    | false => rw [if_neg (by decide), addAll_false]; rfl
    | true => rw [if_pos rfl, addAll_up t _]; rfl
theorem rd1_rg1 {b : List Int} {L : Nat} {x : Int} {r : List Int} (h : rd1 b L = some (x, r)) : rg1 b = some (x, r) := by
  unfold rd1 at h
  unfold rg1
  split at h
  · cases h
  · rename_i h0
    rw [if_neg h0]
    split at h
    · cases h
    · exact h
theorem rg1_rd1 {b : List Int} {L : Nat} {x : Int} {r : List Int} (h : rg1 b = some (x, r)) (hx : x ≤ (b.length : Int) + L) : rd1 b L = some (x, r) := by
  unfold rg1 at h
  unfold rd1
  split at h
  · cases h
  · rename_i h0
    simp only [Option.some.injEq, Prod.mk.injEq] at h
    obtain ⟨rfl, rfl⟩ := h
    rw [if_neg h0, if_neg (by omega)]
theorem rg1_len {b : List Int} {x : Int} {r : List Int} (h : rg1 b = some (x, r)) : 0 ≤ x ∧ r.length < b.length := by
  unfold rg1 at h
  split at h
  · cases h
  · rename_i h1
    simp only [Option.some.injEq, Prod.mk.injEq] at h
    obtain ⟨rfl, rfl⟩ := h
    obtain ⟨h3, h4, h5⟩ := get_facts b
    exact ⟨h3, by rw [List.length_drop]; omega⟩
theorem rgN_len : ∀ (n : Nat) (b acc xs r : List Int), rgN n b acc = some (xs, r) → (∀ x ∈ acc, 0 ≤ x) → r.length + n ≤ b.length ∧ (∀ x ∈ xs, 0 ≤ x) ∧ xs.length = acc.length + n ∧ xs.take acc.length = acc
  | 0, b, acc, xs, r, h, ha => by
    simp only [rgN, Option.some.injEq, Prod.mk.injEq] at h
    obtain ⟨rfl, rfl⟩ := h
    exact ⟨Nat.le_refl _, ha, rfl, List.take_length⟩
  | n + 1, b, acc, xs, r, h, ha => by
    rw [rgN] at h
    obtain ⟨⟨x, b2⟩, h1, h2⟩ := Option.bind_eq_some_iff.mp h
    obtain ⟨h3, h5⟩ := rg1_len h1
    obtain ⟨h6, h7, h8, h9⟩ := rgN_len n b2 (acc ++ [x]) xs r h2 (fun y hy => by
      rcases List.mem_append.1 hy with hy | hy
      · exact ha y hy
      · rw [List.mem_singleton.1 hy]; exact h3)
    rw [List.length_append, List.length_singleton] at h8 h9
    refine ⟨by omega, h7, by omega, ?_⟩
    have := congrArg (List.take acc.length) h9
    rw [List.take_take, Nat.min_eq_left (by omega), List.take_left] at this
    exact this
/-- Numbers that are small are read alike. -/
theorem rgN_rdN : ∀ (n : Nat) (b : List Int) (L : Nat) (acc xs r : List Int), rgN n b acc = some (xs, r) → (∀ x ∈ xs, x ≤ (r.length : Int) + L) → (∀ x ∈ acc, 0 ≤ x) → rdN n b L acc = some (xs, r)
  | 0, b, L, acc, xs, r, h, _, _ => h
  | n + 1, b, L, acc, xs, r, h, hx, ha => by
    rw [rgN] at h
    obtain ⟨⟨x, b2⟩, h1, h2⟩ := Option.bind_eq_some_iff.mp h
    obtain ⟨h3, h5⟩ := rg1_len h1
    have ha2 : ∀ y ∈ acc ++ [x], 0 ≤ y := fun y hy => by
      rcases List.mem_append.1 hy with hy | hy
      · exact ha y hy
      · rw [List.mem_singleton.1 hy]; exact h3
    obtain ⟨h6, h7, h8, h9⟩ := rgN_len n b2 (acc ++ [x]) xs r h2 ha2
    have hxm : x ∈ xs := by
      have : x ∈ xs.take (acc ++ [x]).length := by rw [h9]; simp
      exact List.mem_of_mem_take this
    have hxb := hx x hxm
    rw [rdN, rg1_rd1 h1 (by omega), Option.bind_some]
    exact rgN_rdN n b2 L (acc ++ [x]) xs r h2 hx ha2
theorem rdN_rgN : ∀ (n : Nat) (b : List Int) (L : Nat) (acc xs r : List Int), rdN n b L acc = some (xs, r) → rgN n b acc = some (xs, r)
  | 0, b, L, acc, xs, r, h => h
  | n + 1, b, L, acc, xs, r, h => by
    rw [rdN] at h
    obtain ⟨⟨x, b2⟩, h1, h2⟩ := Option.bind_eq_some_iff.mp h
    rw [rgN, rd1_rg1 h1, Option.bind_some]
    exact rdN_rgN n b2 L _ xs r h2
def vc (x : S68) : S70 := ⟨x.f0, x.f1⟩
theorem cv_vc (l : List S68) : (l.map vc).map cv = l := by rw [List.map_map]; exact List.map_id l
theorem vc_cv (l : List S70) : (l.map cv).map vc = l := by rw [List.map_map]; exact List.map_id l
theorem three (xs : List Int) (h : xs.length = 3) : xs = [xs.getD 0 0, xs.getD 1 0, xs.getD 2 0] := by
  match xs, h with
  | [a, b, c], _ => rfl
theorem addB_not (s : St) (n : Nat) (hr : s.rows = n) (k : ByteArray) : (0 < n ∧ Op.bytesLess s.last.toList k.toList = false) ↔ addB s k = false := by
  unfold addB
  rw [Bool.or_eq_false_iff, beq_eq_false_iff_ne, hr]
  constructor
  · rintro ⟨h1, h2⟩; exact ⟨by omega, h2⟩
  · rintro ⟨h1, h2⟩; exact ⟨by omega, h2⟩
theorem rf_rd : ∀ (f : Nat) (b : List Int) (s : St) (acc r : List S70), b.length + s.last.size ≤ 30000 → s.rows = acc.length → rfR f b s.last acc = some r → ∃ t, r = acc ++ t ∧ rdR f b s.last (acc.map cv) = some (r.map cv) ∧ upB s (t.map cv) = true
  | 0, b, s, acc, r, _, _, h => by
    rw [rfR] at h
    obtain rfl := Option.some.inj h
    exact ⟨[], by simp, by rw [rdR], rfl⟩
  | f + 1, b, s, acc, r, hl, hr, h => by
    rw [rfR] at h
    split at h
    · rename_i hb
      obtain rfl := Option.some.inj h
      exact ⟨[], by simp, by rw [rdR, if_pos hb], rfl⟩
    · rename_i hb
      obtain ⟨⟨xs, q⟩, h1, h2⟩ := Option.bind_eq_some_iff.mp h
      obtain ⟨h3, h4, h5, _⟩ := rgN_len 3 b [] xs q h1 (fun x hx => absurd hx (by simp))
      simp only at h2
      split at h2
      · cases h2
      · split at h2
        · cases h2
        · split at h2
          · cases h2
          · split at h2
            · cases h2
            · rename_i c0 c1 c2 c3
              have hx3 := three xs (by simpa using h5)
              have hg : ∀ i, 0 ≤ xs.getD i 0 := by
                intro i
                rw [List.getD_eq_getElem?_getD]
                by_cases hi : i < xs.length
                · rw [List.getElem?_eq_getElem hi]; exact h4 _ (List.getElem_mem hi)
                · rw [List.getElem?_eq_none (by omega)]; exact Int.le_refl _
              have g0 := hg 0
              have g1 := hg 1
              have g2 := hg 2
              have hN : rdN 3 b s.last.size [] = some (xs, q) := rgN_rdN 3 b s.last.size [] xs q h1 (fun x hx => by
                rw [hx3] at hx
                simp only [List.mem_cons, List.not_mem_nil, or_false] at hx
                rcases hx with rfl | rfl | rfl <;> omega) (fun x hx => absurd hx (by simp))
              rw [addB_not s acc.length hr] at c3
              have hadd : addB s (s.last.extract 0 (xs.getD 0 0).toNat ++ strOfNums (q.take (xs.getD 1 0).toNat)) = true := by simpa using c3
              have hks : (s.last.extract 0 (xs.getD 0 0).toNat ++ strOfNums (q.take (xs.getD 1 0).toNat)).size = (xs.getD 0 0).toNat + (xs.getD 1 0).toNat := by
                rw [ByteArray.size_append, ByteArray.size_extract, strOfNums_size', List.length_take]; omega
              obtain ⟨t, rfl, e2, e3⟩ := rf_rd f _ (addT s (s.last.extract 0 (xs.getD 0 0).toNat ++ strOfNums (q.take (xs.getD 1 0).toNat)) (strOfNums ((q.take ((xs.getD 1 0).toNat + (xs.getD 2 0).toNat)).drop (xs.getD 1 0).toNat))) _ r (by show _ + (s.last.extract 0 (xs.getD 0 0).toNat ++ strOfNums (q.take (xs.getD 1 0).toNat)).size ≤ _; rw [List.length_drop, hks]; omega) (by show s.rows + 1 = _; rw [List.length_append, List.length_singleton, hr]) h2
              refine ⟨_, List.append_assoc _ _ _, ?_, ?_⟩
              · rw [rdR, if_neg hb, hN, Option.bind_some]
                simp only
                rw [if_neg c0, if_neg c1, if_neg c2]
                rw [List.map_append] at e2
                exact e2
              · rw [List.map_append, List.map_singleton, List.singleton_append, upB]
                rw [Bool.and_eq_true]
                exact ⟨hadd, e3⟩
theorem rdR_pre : ∀ (f : Nat) (b : List Int) (last : ByteArray) (acc q : List S68), rdR f b last acc = some q → ∃ t, q = acc ++ t
  | 0, b, last, acc, q, h => by
    rw [rdR] at h
    obtain rfl := Option.some.inj h
    exact ⟨[], by simp⟩
  | f + 1, b, last, acc, q, h => by
    rw [rdR] at h
    split at h
    · obtain rfl := Option.some.inj h
      exact ⟨[], by simp⟩
    · obtain ⟨⟨xs, r⟩, h1, h2⟩ := Option.bind_eq_some_iff.mp h
      simp only at h2
      split at h2
      · cases h2
      · split at h2
        · cases h2
        · split at h2
          · cases h2
          · obtain ⟨t, rfl⟩ := rdR_pre f _ _ _ _ h2
            exact ⟨_, List.append_assoc _ _ _⟩
theorem rd_rf : ∀ (f : Nat) (b : List Int) (s : St) (acc : List S70) (q : List S68), b.length + s.last.size ≤ 30000 → s.rows = acc.length → rdR f b s.last (acc.map cv) = some q → (∀ t, q = acc.map cv ++ t → upB s t = true) → rfR f b s.last acc = some (q.map vc)
  | 0, b, s, acc, q, _, _, h, _ => by
    rw [rdR] at h
    obtain rfl := Option.some.inj h
    rw [rfR, vc_cv]
  | f + 1, b, s, acc, q, hl, hr, h, hu => by
    rw [rdR] at h
    split at h
    · rename_i hb
      obtain rfl := Option.some.inj h
      rw [rfR, if_pos hb, vc_cv]
    · rename_i hb
      obtain ⟨⟨xs, r⟩, h1, h2⟩ := Option.bind_eq_some_iff.mp h
      obtain ⟨h3, h4, h5⟩ := rdN_facts 3 b s.last.size [] xs r hl h1 (fun x hx => absurd hx (by simp))
      simp only at h2
      split at h2
      · cases h2
      · split at h2
        · cases h2
        · split at h2
          · cases h2
          · rename_i c0 c1 c2
            have hg : ∀ i, 0 ≤ xs.getD i 0 := by
              intro i
              rw [List.getD_eq_getElem?_getD]
              by_cases hi : i < xs.length
              · rw [List.getElem?_eq_getElem hi]; exact h4 _ (List.getElem_mem hi)
              · rw [List.getElem?_eq_none (by omega)]; exact Int.le_refl _
            have g0 := hg 0
            have g1 := hg 1
            have g2 := hg 2
            obtain ⟨t, ht⟩ := rdR_pre f _ _ _ _ h2
            rw [List.append_assoc] at ht
            have hup := hu _ ht
            rw [List.singleton_append, upB, Bool.and_eq_true] at hup
            have hks : (s.last.extract 0 (xs.getD 0 0).toNat ++ strOfNums (r.take (xs.getD 1 0).toNat)).size = (xs.getD 0 0).toNat + (xs.getD 1 0).toNat := by
              rw [ByteArray.size_append, ByteArray.size_extract, strOfNums_size', List.length_take]; omega
            rw [rfR, if_neg hb, rdN_rgN 3 b s.last.size [] xs r h1, Option.bind_some]
            simp only
            rw [if_neg c0, if_neg c1, if_neg c2, if_neg (by rw [addB_not s acc.length hr]; simpa using hup.1)]
            refine rd_rf f _ (addT s (s.last.extract 0 (xs.getD 0 0).toNat ++ strOfNums (r.take (xs.getD 1 0).toNat)) (strOfNums ((r.take ((xs.getD 1 0).toNat + (xs.getD 2 0).toNat)).drop (xs.getD 1 0).toNat))) _ q (by show _ + (s.last.extract 0 (xs.getD 0 0).toNat ++ strOfNums (r.take (xs.getD 1 0).toNat)).size ≤ _; rw [List.length_drop, hks]; omega) (by show s.rows + 1 = _; rw [List.length_append, List.length_singleton, hr]) (by rw [List.map_append]; exact h2) (fun t2 ht2 => ?_)
            rw [List.map_append, List.append_assoc] at ht2
            have h6 := hu _ ht2
            rw [List.map_singleton, List.singleton_append, upB, Bool.and_eq_true] at h6
            exact h6.2
theorem read_ref (l : List Int) (hl : l.length ≤ 30000) : readS l = (refS l).map (List.map cv) := by
  unfold readS refS
  by_cases h4 : l.length < 4
  · rw [if_pos h4, if_pos h4]; rfl
  · rw [if_neg h4, if_neg h4]
    by_cases h5 : l.length < 4 * (cnt l + 1)
    · rw [if_pos h5, if_pos h5]; rfl
    · rw [if_neg h5, if_neg h5]
      have hlen : (l.take (l.length - 4 * (cnt l + 1))).length + St0.last.size ≤ 30000 := by rw [List.length_take]; show _ + 0 ≤ _; omega
      cases hro : rfR (l.length - 4 * (cnt l + 1)) (l.take (l.length - 4 * (cnt l + 1))) ⟨#[]⟩ [] with
      | some r =>
        obtain ⟨t, hr2, e2, e3⟩ := rf_rd _ _ St0 [] r hlen rfl hro
        rw [List.nil_append] at hr2
        rw [← hr2] at e3
        have hrs : rowsOf l = some (r.map cv) := e2
        have hall : (addAll (r.map cv) (true, St0)).1 = true := by rw [addAll_up]; exact e3
        rw [hrs, Option.bind_some]
        simp only [Option.getD_some, Option.isSome_some]
        rw [addAll_true _ St0 hall]
        simp only [true_and]
        split
        · rfl
        · rfl
      | none =>
        rw [Option.bind_none, Option.map_none]
        cases hrd : rowsOf l with
        | none => simp only [Option.getD_none, Option.isSome_none, addAll]; rw [if_neg (by simp)]
        | some q =>
          simp only [Option.getD_some, Option.isSome_some]
          rw [if_neg]
          rintro ⟨hall, _⟩
          rw [addAll_up] at hall
          have := rd_rf _ _ St0 [] q hlen rfl hrd (fun t ht => by rw [List.map_nil, List.nil_append] at ht; rw [← ht]; exact hall)
          rw [show St0.last = (⟨#[]⟩ : ByteArray) from rfl] at this
          rw [hro] at this
          cases this
end Go.Proofs.Ytoglanahjlfihaa.QBlk
