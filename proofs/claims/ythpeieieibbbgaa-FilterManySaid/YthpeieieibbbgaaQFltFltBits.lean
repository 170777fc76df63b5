/- Filters: what was set stays set; hashes and places are told. -/
import Derived.Test.YthpeieieibbbgaaMFltx1
import Derived.Test.YthpeieieibbbgaaQFltBasic
namespace Go.Proofs.Ythpeieieibbbgaa.QFlt
open Go.RowKit Go.Proofs.Ythpeieieibbbgaa.MFlt Go.Proofs.Ythpeieieibbbgaa.QFlt Go.Proofs.YthpeieieibbbgaaW.PrintWords Go.Proofs.YthpeieieibbbgaaW.PrintLast Go.Proofs.YthpeieieibbbgaaW.PrintMore
set_option linter.unusedVariables false
set_option linter.unusedSimpArgs false
theorem bb : ∀ y, y < 256 → ∀ i, i < 8 → ∀ j, j < 8 → ((Go.bits .and .u8 (Go.bits .or .u8 ((y : Nat) : Int) (2 ^ i % 256)) (2 ^ j % 256) == 0) = ((Go.bits .and .u8 (y : Int) (2 ^ j % 256) == 0) && !(i == j))) ∧ 0 ≤ Go.bits .or .u8 (y : Int) (2 ^ i % 256) ∧ Go.bits .or .u8 (y : Int) (2 ^ i % 256) < 256 := by decide +kernel
/-- A row of bytes. -/
def rowB (b : List Int) : Prop := ∀ x ∈ b, 0 ≤ x ∧ x < 256
theorem rowB_get {b : List Int} (h : rowB b) (i : Nat) : ∃ y : Nat, y < 256 ∧ b.getD i 0 = (y : Int) := by
  rw [List.getD_eq_getElem?_getD]
  cases e : b[i]? with
  | none => exact ⟨0, by omega, rfl⟩
  | some x =>
    have := h x (List.mem_of_getElem? e)
    exact ⟨x.toNat, by omega, by simp only [Option.getD_some]; omega⟩
theorem setBit_len (b : List Int) (p : Int) : (setBit b p).length = b.length := by unfold setBit; rw [List.length_set]
theorem setBit_row {b : List Int} (h : rowB b) (p : Int) : rowB (setBit b p) := by
  intro x hx
  unfold setBit at hx
  rcases List.mem_or_eq_of_mem_set hx with hx | rfl
  · exact h x hx
  · obtain ⟨y, hy, e⟩ := rowB_get h (p / 8).toNat
    rw [e]
    exact (bb y hy (p % 8).toNat (by omega) 0 (by omega)).2
theorem setBit_keep {b : List Int} (h : rowB b) (p q : Int) (hb : bitSet b p = true) : bitSet (setBit b q) p = true := by
  unfold bitSet setBit at *
  by_cases e : (q / 8).toNat = (p / 8).toNat
  · by_cases l : (p / 8).toNat < b.length
    · rw [e, List.getD_eq_getElem?_getD (l := b.set _ _), List.getElem?_set_self l, Option.getD_some]
      obtain ⟨y, hy, e2⟩ := rowB_get h (p / 8).toNat
      rw [e2] at hb ⊢
      rw [(bb y hy (q % 8).toNat (by omega) (p % 8).toNat (by omega)).1]
      simp only [Bool.not_eq_true', Bool.not_and, Bool.not_not, Bool.or_eq_true] at hb ⊢
      rw [hb]; simp
    · rw [List.set_eq_of_length_le (by omega)]; exact hb
  · rw [List.getD_eq_getElem?_getD (l := b.set _ _), List.getElem?_set_ne e, ← List.getD_eq_getElem?_getD]; exact hb
theorem setBit_self {b : List Int} (h : rowB b) (p : Int) (hp : (p / 8).toNat < b.length) : bitSet (setBit b p) p = true := by
  unfold bitSet setBit
  rw [List.getD_eq_getElem?_getD (l := b.set _ _), List.getElem?_set_self hp, Option.getD_some]
  obtain ⟨y, hy, e2⟩ := rowB_get h (p / 8).toNat
  rw [e2, (bb y hy (p % 8).toNat (by omega) (p % 8).toNat (by omega)).1]
  simp
theorem fold_row : ∀ (ps b : List Int), rowB b → rowB (ps.foldl setBit b) ∧ (ps.foldl setBit b).length = b.length
  | [], b, h => ⟨h, rfl⟩
  | p :: t, b, h => by
    have := fold_row t (setBit b p) (setBit_row h p)
    exact ⟨this.1, this.2.trans (setBit_len b p)⟩
theorem fold_keep : ∀ (ps b : List Int) (p : Int), rowB b → bitSet b p = true → bitSet (ps.foldl setBit b) p = true
  | [], _, _, _, hb => hb
  | q :: t, b, p, h, hb => fold_keep t (setBit b q) p (setBit_row h q) (setBit_keep h p q hb)
theorem fold_self : ∀ (ps b : List Int), rowB b → (∀ p ∈ ps, (p / 8).toNat < b.length) → ∀ p ∈ ps, bitSet (ps.foldl setBit b) p = true
  | [], _, _, _, p, hp => by cases hp
  | q :: t, b, h, hl, p, hp => by
    rcases List.mem_cons.1 hp with rfl | hp
    · exact fold_keep t _ _ (setBit_row h p) (setBit_self h p (hl p (List.mem_cons_self ..)))
    · exact fold_self t (setBit b q) (setBit_row h q) (fun x hx => by rw [setBit_len]; exact hl x (List.mem_cons_of_mem _ hx)) p hp
theorem u64_nonneg (x : Int) : 0 ≤ IntKind.u64.wrap x := by simp only [IntKind.wrap, IntKind.signed, IntKind.bits, Bool.false_and, Bool.false_eq_true, if_false]; omega
theorem Hash_l0 (s : ByteArray) (hs : s.size < 1000000) (d : Nat) : ∀ (i : Nat) (h : Int), s.size - i = d → 0 ≤ h → ∃ r, 0 ≤ r ∧ Ev (fun k => ckey_Hash.l0 k s h (s.size : Int) (i : Int)) r := by
  induction d with
  | zero =>
    intro i h hd h0
    refine ⟨h, h0, Ev.succ ?_⟩
    simp only [ckey_Hash.l0]
    exact Ev.ite_neg (by omega) (Ev.now _)
  | succ d ih =>
    intro i h hd h0
    obtain ⟨r, hr, he⟩ := ih (i + 1) (IntKind.u64.wrap ((Go.bits .xor .u64 h (IntKind.u64.wrap (bt s (i : Int)))) * 1099511628211)) (by omega) (u64_nonneg _)
    refine ⟨r, hr, Ev.succ ?_⟩
    simp only [ckey_Hash.l0]
    rw [wrap64_id (n := (i : Int) + 1) (by omega) (by omega)]
    exact Ev.ite_pos (by omega) (Ev.ite_pos (by omega) (Ev.ite_pos (by omega) he))
theorem Hash_ev (s : ByteArray) (hs : s.size < 1000000) : ∃ r, 0 ≤ r ∧ Ev (fun k => ckey_Hash.f k s) r := Hash_l0 s hs s.size 0 14695981039346656037 rfl (by omega)
theorem Rot_some (h : Int) : ∃ d, bits_RotateLeft64.f h (-17) = some d := by
  unfold bits_RotateLeft64.f
  rw [if_pos (by decide +kernel), if_pos (by decide +kernel)]
  exact ⟨_, rfl⟩
theorem places_ev (s : ByteArray) (size : Int) (hs : s.size < 1000000) (hz : 0 < size) : ∃ ps, Ev (fun k => placesF k s size) ps ∧ ∀ p ∈ ps, 0 ≤ p ∧ p < size := by
  obtain ⟨h, h0, he⟩ := Hash_ev s hs
  obtain ⟨d, hd⟩ := Rot_some h
  refine ⟨plc h d size 6, ?_, (plc_props d size hz 6 h h0).2⟩
  unfold placesF
  refine Ev.bind he ?_
  rw [hd]
  exact Ev.same (by rw [Option.bind_some, if_pos ⟨hz, h0⟩])
theorem Ev.det {α : Type} {g : Nat → Option α} {a b : α} (h : Ev g a) (h' : Ev g b) : a = b := by
  obtain ⟨K, h⟩ := h
  obtain ⟨K', h'⟩ := h'
  have h1 := h (max K K') (Nat.le_max_left _ _)
  have h2 := h' (max K K') (Nat.le_max_right _ _)
  rw [h1] at h2
  exact Option.some.inj h2
/-- What was made of a list of texts: each text's bits are set. -/
theorem make_ev (S : Int) (h8 : 1 ≤ S) : ∀ (l : List ByteArray) (b : List Int), (∀ x ∈ l, x.size < 1000000) → rowB b → (S.toNat < b.length) →
    ∃ b', Ev (fun k => makeL k S l b) b' ∧ rowB b' ∧ b'.length = b.length ∧ (∀ p, bitSet b p = true → bitSet b' p = true) ∧ ∀ x ∈ l, ∃ ps, Ev (fun k => placesF k x (S * 8)) ps ∧ (∀ p ∈ ps, 0 ≤ p ∧ p < S * 8) ∧ ∀ p ∈ ps, bitSet b' p = true
  | [], b, _, hb, _ => ⟨b, Ev.now _, hb, rfl, fun _ h => h, fun x hx => by cases hx⟩
  | x :: t, b, hl, hb, hn => by
    obtain ⟨ps, e1, hp⟩ := places_ev x (S * 8) (hl x (List.mem_cons_self ..)) (by omega)
    have hr := fold_row ps b hb
    obtain ⟨b', e2, h1, h2, h3, h4⟩ := make_ev S h8 t (ps.foldl setBit b) (fun y hy => hl y (List.mem_cons_of_mem _ hy)) hr.1 (by rw [hr.2]; exact hn)
    refine ⟨b', ?_, h1, h2.trans hr.2, fun p hp => h3 p (fold_keep ps b p hb hp), fun y hy => ?_⟩
    · simp only [makeL]; exact Ev.bind e1 e2
    · rcases List.mem_cons.1 hy with rfl | hy
      · exact ⟨ps, e1, hp, fun p h => h3 p (fold_self ps b hb (fun q hq => by have := hp q hq; omega) p h)⟩
      · exact h4 y hy
end Go.Proofs.Ythpeieieibbbgaa.QFlt
