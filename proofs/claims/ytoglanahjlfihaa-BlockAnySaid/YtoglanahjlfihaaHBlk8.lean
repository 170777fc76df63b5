import Derived.Test.YtoglanahjlfihaaHBlk3
import Derived.Test.YtoglanahjlfihaaHBlk5
import Derived.Test.YtoglanahjlfihaaQBlkPutV
import Derived.Test.YtoglanahjlfihaaQBlkFix4
namespace Go.Proofs.Ytoglanahjlfihaa.MBlk
open Go.RowKit Go.Proofs.Ytoglanahjlfihaa.QBlk Go.Proofs.YtoglanahjlfihaaW.PrintWords Go.Proofs.YtoglanahjlfihaaW.PrintLast Go.Proofs.YtoglanahjlfihaaW.PrintMore
set_option linter.unusedVariables false
set_option linter.unusedSimpArgs false
/-- How much two rows begin with alike. -/
def cpl : List Int → List Int → Nat
  | x :: a, y :: b => if x = y then cpl a b + 1 else 0
  | _, _ => 0
theorem cpl_le : ∀ a b : List Int, cpl a b ≤ a.length ∧ cpl a b ≤ b.length
  | [], _ => by simp [cpl]
  | _ :: _, [] => by simp [cpl]
  | x :: a, y :: b => by
    have := cpl_le a b
    unfold cpl
    split <;> simp <;> omega
theorem bt_getD (s : ByteArray) (i : Nat) : bt s (i : Int) = (bytesOf s).getD i 0 := by
  rw [← rd_bytesOf, rd, Int.toNat_natCast]
theorem dropD (l : List Int) (i : Nat) (h : i < l.length) : l.drop i = l.getD i 0 :: l.drop (i + 1) := by
  rw [List.drop_eq_getElem_cons h, List.getD_eq_getElem?_getD, List.getElem?_eq_getElem h]; rfl
theorem shared_l0 (a b : ByteArray) (ha : a.size < 4611686018427387904) (d : Nat) : ∀ i : Nat, a.size - i = d → i ≤ a.size → i ≤ b.size → Ev (fun k => block_shared.l0 k a b (i : Int)) ((i + cpl ((bytesOf a).drop i) ((bytesOf b).drop i) : Nat) : Int) := by
  induction d with
  | zero =>
    intro i h h1 h2
    refine Ev.succ ?_
    simp only [block_shared.l0]
    refine Ev.ite_neg (by omega) ?_
    rw [List.drop_eq_nil_of_le (by rw [bytesOf_length]; omega), cpl]
    exact Ev.now _
    simp
  | succ d ih =>
    intro i h h1 h2
    refine Ev.succ ?_
    simp only [block_shared.l0]
    refine Ev.ite_pos (by omega) ?_
    by_cases hb : i < b.size
    · refine Ev.ite_pos (by omega) (Ev.ite_pos (by omega) ?_)
      rw [dropD (bytesOf a) i (by rw [bytesOf_length]; omega), dropD (bytesOf b) i (by rw [bytesOf_length]; omega), cpl]
      by_cases he : (bytesOf a).getD i 0 = (bytesOf b).getD i 0
      · rw [if_pos he]
        refine Ev.ite_pos (by rw [bt_getD, bt_getD]; exact he) ?_
        have := ih (i + 1) (by omega) (by omega) (by omega)
        rw [wrap64_id (by omega) (by omega)]
        refine Ev.congr (fun k => ?_) (by rw [show i + (cpl ((bytesOf a).drop (i + 1)) ((bytesOf b).drop (i + 1)) + 1) = i + 1 + cpl ((bytesOf a).drop (i + 1)) ((bytesOf b).drop (i + 1)) by omega]; exact this)
        rfl
      · rw [if_neg he]
        exact Ev.ite_neg (by rw [bt_getD, bt_getD]; exact he) (Ev.now _)
    · refine Ev.ite_neg (by omega) ?_
      rw [show (bytesOf b).drop i = [] from List.drop_eq_nil_of_le (by rw [bytesOf_length]; omega)]
      rw [show cpl ((bytesOf a).drop i) [] = 0 by cases (bytesOf a).drop i <;> rfl]
      exact Ev.now _
theorem shared_ev (a b : ByteArray) (ha : a.size < 4611686018427387904) : Ev (fun k => block_shared.f k a b) ((cpl (bytesOf a) (bytesOf b) : Nat) : Int) := by
  have := shared_l0 a b ha _ 0 rfl (by omega) (by omega)
  rw [List.drop_zero, List.drop_zero, Nat.zero_add] at this
  exact this
theorem putAll_ev : ∀ (l : List Nat) (b : List Int), (∀ x ∈ l, x < 18446744073709551616) → b.length + 10 * l.length < 140737488355328 → Ev (fun k => putAll k (l.map (fun x : Nat => (x : Int))) b) (b ++ l.flatMap put)
  | [], b, _, _ => by
    simp only [List.map_nil, putAll, List.flatMap_nil, List.append_nil]
    exact Ev.now b
  | n :: t, b, h, hl => by
    simp only [List.map_cons, putAll]
    have hn := h n (by simp)
    rw [u64_id (by omega) (by omega)]
    refine Ev.bind (Put_ev hn) ?_
    have h10 := put_length10 hn
    simp only [List.length_cons] at hl
    refine Ev.ite_pos (by omega) ?_
    have := putAll_ev t (b ++ put n) (fun x hx => h x (by simp [hx])) (by rw [List.length_append]; omega)
    rw [List.flatMap_cons, ← List.append_assoc]
    exact this
/-- A builder's state. -/
structure St where
  rows : Nat
  last : ByteArray
  b : List Int
  p : List Int
def St0 : St := ⟨0, ⟨#[]⟩, [], []⟩
/-- How much a key shares. -/
def St.sh (s : St) (k : ByteArray) : Nat := if s.rows % 4 = 0 then 0 else cpl (bytesOf s.last) (bytesOf k)
/-- A row added. -/
def addT (s : St) (k v : ByteArray) : St := ⟨s.rows + 1, k, s.b ++ (put (s.sh k) ++ put (k.size - s.sh k) ++ put v.size) ++ (bytesOf k).drop (s.sh k) ++ bytesOf v, if s.rows % 4 = 0 then s.p ++ fix s.b.length 4 else s.p⟩
def addB (s : St) (k : ByteArray) : Bool := s.rows == 0 || Op.bytesLess s.last.toList k.toList
def addS (s : St) (k v : ByteArray) : Option St := if addB s k then some (addT s k v) else none
def BldS (w0 w : World) (g : Nat) (s : St) : Prop := BldI w0 w g s.rows s.last s.b s.p
theorem bytesOf_extract_from (k : ByteArray) (n : Nat) : bytesOf (k.extract n k.size) = (bytesOf k).drop n := by
  unfold bytesOf
  rw [ByteArray.data_extract, Array.toList_extract, List.extract_eq_take_drop, ← List.map_drop]
  congr 1
  rw [List.take_of_length_le]
  rw [List.length_drop, Array.length_toList]
  exact Nat.le_refl _
theorem u32_id {n : Int} (h0 : 0 ≤ n) (h1 : n < 4294967296) : IntKind.u32.wrap n = n := by
  simp only [IntKind.wrap, IntKind.signed, IntKind.bits, Bool.false_and, Bool.false_eq_true, if_false]
  omega
theorem block_Add.calls (w0 w : World) (g : Nat) (s : St) (key value : ByteArray) (hI : BldS w0 w g s) (hr : s.rows < 1000000000) (hl : s.last.size < 1000000) (hks : key.size < 1000000) (hvs : value.size < 1000000) (hbl : s.b.length < 4294967296) (hpl : s.p.length < 4294967296) :
    Calls Try.prog 40 #[.pointer (some ⟨g, 0, none⟩), .string key, .string value] w fun e w' => e = .returned (.bool (addB s key)) ∧ BldS w0 w' g (if addB s key then addT s key value else s) ∧ Oth w w' g := by
  unfold BldS at *
  by_cases hb : addB s key = true
  · rw [if_pos hb, hb]
    have hb' : s.rows = 0 ∨ Op.bytesLess s.last.toList key.toList = true := by
      unfold addB at hb
      rw [Bool.or_eq_true, beq_iff_eq] at hb
      exact hb
    by_cases h4 : s.rows % 4 = 0
    · have hsh : s.sh key = 0 := if_pos h4
      obtain ⟨K1, hK1⟩ := Put32_ev (n := s.b.length) hbl
      have hp := putAll_ev [0, key.size, value.size] s.b (by simp; omega) (by simp; omega)
      obtain ⟨K2, hK2⟩ := hp
      have hq := block_Add_yesA.calls (max K1 K2) w0 w g s.rows s.last key value s.b s.p (fix s.b.length 4) _ hI
        (by rcases hb' with h | h; exact .inr (by omega); by_cases h0 : s.rows = 0; exact .inr (by omega); exact .inl ⟨by omega, h⟩)
        (by rw [Int.tmod_eq_emod_of_nonneg (by omega)]; omega) (by rw [u32_id (by omega) (by omega)]; exact hK1 _ (Nat.le_max_left ..)) (hK2 _ (Nat.le_max_right ..)) (by omega) hks hvs
        (by
          have h0 := put_length10 (n := 0) (by omega)
          have h1 := put_length10 (n := key.size) (by omega)
          have h2 := put_length10 (n := value.size) (by omega)
          simp only [List.length_append, List.flatMap_cons, List.flatMap_nil, List.append_nil]
          omega)
        (by rw [fix_length]; omega)
      refine hq.mono ?_
      rintro e w' ⟨rfl, hI', hO⟩
      refine ⟨rfl, ?_, hO⟩
      have : (addT s key value) = ⟨s.rows + 1, key, s.b ++ [0, key.size, value.size].flatMap put ++ bytesOf key ++ bytesOf value, s.p ++ fix s.b.length 4⟩ := by
        unfold addT
        rw [hsh, if_pos h4]
        simp only [List.drop_zero, Nat.sub_zero, List.flatMap_cons, List.flatMap_nil, List.append_nil, List.append_assoc]
      rw [this]
      simpa using hI'
    · have hsh : s.sh key = cpl (bytesOf s.last) (bytesOf key) := if_neg h4
      have hcl := cpl_le (bytesOf s.last) (bytesOf key)
      rw [bytesOf_length, bytesOf_length] at hcl
      obtain ⟨K1, hK1⟩ := shared_ev s.last key (by omega)
      have hp := putAll_ev [s.sh key, key.size - s.sh key, value.size] s.b (by simp; omega) (by simp; omega)
      obtain ⟨K2, hK2⟩ := hp
      have hq := block_Add_yesB.calls (max K1 K2) w0 w g s.rows (s.sh key : Nat) s.last key value s.b s.p _ hI (by omega)
        (by rcases hb' with h | h; omega; exact h)
        (by rw [Int.tmod_eq_emod_of_nonneg (by omega)]; omega) (by rw [hsh]; exact hK1 _ (Nat.le_max_left ..)) (by omega) (by omega) (by
          have h_ := hK2 (max K1 K2) (Nat.le_max_right ..)
          simp only [List.map_cons, List.map_nil] at h_
          rw [← h_, Int.ofNat_sub (by omega)]) (by omega) hks hvs
        (by
          have h0 := put_length10 (n := s.sh key) (by omega)
          have h1 := put_length10 (n := key.size - s.sh key) (by omega)
          have h2 := put_length10 (n := value.size) (by omega)
          simp only [List.length_append, List.flatMap_cons, List.flatMap_nil, List.append_nil]
          omega)
      refine hq.mono ?_
      rintro e w' ⟨rfl, hI', hO⟩
      refine ⟨rfl, ?_, hO⟩
      have : (addT s key value) = ⟨s.rows + 1, key, s.b ++ [s.sh key, key.size - s.sh key, value.size].flatMap put ++ (bytesOf key).drop (s.sh key) ++ bytesOf value, s.p⟩ := by
        unfold addT
        rw [if_neg h4]
        simp only [List.flatMap_cons, List.flatMap_nil, List.append_nil, List.append_assoc]
      rw [this]
      rw [Int.toNat_natCast, bytesOf_extract_from] at hI'
      simpa using hI'
  · rw [if_neg hb]
    have hf : addB s key = false := by simpa using hb
    rw [hf]
    unfold addB at hf
    rw [Bool.or_eq_false_iff, beq_eq_false_iff_ne] at hf
    refine (block_Add_no.calls w0 w g s.rows s.last key value s.b s.p hI (by omega) hf.2).mono ?_
    rintro e w' ⟨rfl, rfl⟩
    exact ⟨rfl, hI, Oth.refl _ _⟩
/-- The block's bytes. -/
def St.out (s : St) : List Int := s.b ++ s.p ++ fix (s.p.length / 4) 4
theorem block_BytesS.calls (w0 w : World) (g : Nat) (s : St) (hI : BldS w0 w g s) (hbl : s.b.length < 4294967296) (hpl : s.p.length < 4294967296) :
    Calls Try.prog 41 #[.pointer (some ⟨g, 0, none⟩)] w fun e w' => ∃ v, e = .returned v ∧ Kd.R (Kd.int .u8) 5 w' w.heap.size (fun _ => True) v s.out ∧ BldS w0 w' g s ∧ Below w.heap.size w w' := by
  obtain ⟨K, hK⟩ := Put32_ev (n := s.p.length / 4) (by omega)
  exact block_Bytes.calls K w0 w g s.rows s.last s.b s.p _ hI (by rw [← hK K (Nat.le_refl _)]; congr 1; omega) (by omega) (by omega) (by rw [fix_length]; omega)
set_option maxHeartbeats 8000000 in
set_option maxRecDepth 100000 in
theorem block_NewS.calls (w0 w : World) (hB : Below w0.heap.size w0 w) :
    Calls Try.prog 38 #[] w fun e w' => ∃ g : Nat, e = .returned (.pointer (some ⟨g, 0, none⟩)) ∧ BldS w0 w' g St0 ∧ Below w.heap.size w w' ∧ w.heap.size ≤ g := by
  have hw : Below w.heap.size w w := Below.refl _ _
  have hu111 := Try.underlying111
  have HBW := Aside0.mk (Below.refl w.heap.size w)
  have HW0 := Aside0.mk hB.size
  have HB := Aside0.mk hB
  clear hB hw
  go_enter Try.func38, Try.ntmps38
  go_wp2_with (first | ((with_reducible refine gate_dst (N := 2) rfl ?_); refine box_event ?hg (N := 2) ?hd (cs := #[.int .i64 0, .string (⟨#[]⟩ : ByteArray), .slice none 0 0, .slice none 0 0]) (t := 111) ?hr ?_; (case hd => rfl); (case hg => rfl); (case hr => first | (go_simp; done) | (go_simp; rfl)); intro gb101 hg w1 hbox hb; have n0_ := Aside0.mk (below_step HBW.out hb); have n1_ := Aside0.mk (below_step (by repeat (first | (with_reducible first | exact HB.out | apply below_alloc | apply pw_below_drewN | apply below_drew1) | exact HB.out)) hb); have n2_ := Aside0.mk (hbox); have n3_ := Aside0.mk ((by rw [hg]; exact (below_size (by repeat (first | (with_reducible first | exact HBW.out | apply below_alloc | apply pw_below_drewN | apply below_drew1) | exact HBW.out))) : w.heap.size ≤ gb101)); have n4_ := Aside0.mk ((Nat.le_trans HW0.out (by rw [hg]; exact (below_size (by repeat (first | (with_reducible first | exact HBW.out | apply below_alloc | apply pw_below_drewN | apply below_drew1) | exact HBW.out))) : w.heap.size ≤ gb101) : w0.heap.size ≤ gb101)); clear HBW; clear HB; have HBW := n0_; have HB := n1_; have BK101 := n2_; have GW101 := n3_; have GE101 := n4_; clear n0_ n1_ n2_ n3_ n4_; clear hb hbox hg))
  go_ret
  refine ⟨_, rfl, ⟨GE101.out, HB.out, .slice none 0 0, .slice none 0 0, BK101.out, Kd.R_nil _ _ _ _ _, Kd.R_nil _ _ _ _ _, fun k hk => by simp [Value.ownBlock] at hk⟩, HBW.out, GW101.out⟩
end Go.Proofs.Ytoglanahjlfihaa.MBlk
