import Derived.Test.YtoglanahjlfihaaMLstx
import Derived.Lib.Strings
namespace Go.Proofs.Ytoglanahjlfihaa.QLst
open Go.Proofs.Ytoglanahjlfihaa.MLst
set_option linter.unusedVariables false
set_option linter.unusedSimpArgs false
theorem bl_irrefl : ∀ l : List UInt8, Op.bytesLess l l = false
  | [] => rfl
  | x :: t => by simp [Op.bytesLess, bl_irrefl t, UInt8.lt_irrefl]
theorem bl_total : ∀ a b : List UInt8, a ≠ b → (Op.bytesLess b a = !(Op.bytesLess a b))
  | [], [], h => absurd rfl h
  | [], _ :: _, _ => by simp [Op.bytesLess]
  | _ :: _, [], _ => by simp [Op.bytesLess]
  | x :: a, y :: b, h => by
    unfold Op.bytesLess
    by_cases e : x = y
    · subst e
      have := bl_total a b (fun z => h (by rw [z]))
      simp [UInt8.lt_irrefl, this]
    · by_cases l : x < y
      · have : ¬ y < x := fun z => UInt8.lt_asymm l z
        simp [l, this, e, Ne.symm e]
      · have l2 : y < x := UInt8.lt_of_le_of_ne (UInt8.not_lt.1 l) (Ne.symm e)
        simp [l, l2, e, Ne.symm e]
theorem bl_trans : ∀ a b c : List UInt8, Op.bytesLess a b = true → Op.bytesLess b c = true → Op.bytesLess a c = true
  | _, [], _, h, _ => by simp [Op.bytesLess] at h
  | _, _ :: _, [], _, h => by simp [Op.bytesLess] at h
  | [], _ :: _, _ :: _, _, _ => by simp [Op.bytesLess]
  | x :: a, y :: b, z :: c, h1, h2 => by
    simp only [Op.bytesLess, Bool.or_eq_true, decide_eq_true_eq, Bool.and_eq_true, beq_iff_eq] at h1 h2 ⊢
    rcases h1 with h1 | ⟨rfl, h1⟩
    · rcases h2 with h2 | ⟨rfl, h2⟩
      · exact .inl (UInt8.lt_trans h1 h2)
      · exact .inl h1
    · rcases h2 with h2 | ⟨rfl, h2⟩
      · exact .inl h2
      · exact .inr ⟨rfl, bl_trans a b c h1 h2⟩
/-- The order of entries. -/
def ltE (a b : S30) : Bool := if a.f0.toList = b.f0.toList then (if a.f1 = b.f1 then decide (a.f2 > b.f2) else decide (a.f1 > b.f1)) else Op.bytesLess a.f0.toList b.f0.toList
theorem toList_inj {a b : ByteArray} (h : a.toList = b.toList) : a = b := by
  rw [Lib.toList_data, Lib.toList_data] at h
  exact ByteArray.ext (Array.toList_inj.1 h)
theorem ltE_irrefl (a : S30) : ltE a a = false := by unfold ltE; rw [if_pos rfl, if_pos rfl]; simp
theorem ltE_trans {a b c : S30} (h1 : ltE a b = true) (h2 : ltE b c = true) : ltE a c = true := by
  unfold ltE at *
  by_cases e1 : a.f0.toList = b.f0.toList
  · rw [if_pos e1] at h1
    rw [e1]
    by_cases e2 : b.f0.toList = c.f0.toList
    · rw [if_pos e2] at h2 ⊢
      by_cases f1 : a.f1 = b.f1
      · rw [if_pos f1] at h1
        by_cases f2 : b.f1 = c.f1
        · rw [if_pos f2] at h2
          rw [if_pos (by omega)]
          simp only [decide_eq_true_eq] at *; omega
        · rw [if_neg f2] at h2
          rw [if_neg (by omega)]
          simp only [decide_eq_true_eq] at *; omega
      · rw [if_neg f1] at h1
        by_cases f2 : b.f1 = c.f1
        · rw [if_neg (by omega)]
          simp only [decide_eq_true_eq] at *; omega
        · rw [if_neg f2] at h2
          simp only [decide_eq_true_eq] at *
          rw [if_neg (by omega)]
          simp only [decide_eq_true_eq]; omega
    · rw [if_neg e2] at h2 ⊢; exact h2
  · rw [if_neg e1] at h1
    by_cases e2 : b.f0.toList = c.f0.toList
    · rw [← e2, if_neg e1]; exact h1
    · rw [if_neg e2] at h2
      have h3 := bl_trans _ _ _ h1 h2
      rw [if_neg (fun e3 => by rw [e3, bl_irrefl] at h3; cases h3)]; exact h3
/-- Of two of other keys one stands ahead. -/
theorem ltE_total {a b : S30} (h : ¬ (a.f0 = b.f0 ∧ a.f1 = b.f1)) : ltE b a = !(ltE a b) := by
  unfold ltE
  by_cases e1 : a.f0.toList = b.f0.toList
  · have h1 : a.f1 ≠ b.f1 := fun e => h ⟨toList_inj e1, e⟩
    rw [if_pos e1, if_pos e1.symm, if_neg h1, if_neg (Ne.symm h1)]
    by_cases hl : a.f1 > b.f1
    · rw [decide_eq_true hl, decide_eq_false (by omega)]; rfl
    · rw [decide_eq_false hl, decide_eq_true (by omega)]; rfl
  · rw [if_neg e1, if_neg (Ne.symm e1)]; exact bl_total _ _ e1
abbrev maxK : Int := 9223372036854775807
/-- What is sought: a key and a number, ahead of all kinds. -/
def qE (norm : ByteArray) (seq : Int) : S30 := ⟨norm, seq, maxK, ⟨#[]⟩, ⟨#[]⟩⟩
def Srt (l : List S30) : Prop := l.Pairwise (fun a b => ltE a b = true)
def Kn (l : List S30) : Prop := ∀ x ∈ l, x.f2 ≤ maxK
def lo (l : List S30) (q : S30) : List S30 := l.takeWhile (fun x => ltE x q)
def hi (l : List S30) (q : S30) : List S30 := l.dropWhile (fun x => ltE x q)
theorem lo_hi (l : List S30) (q : S30) : lo l q ++ hi l q = l := List.takeWhile_append_dropWhile
theorem lo_lt (l : List S30) (q : S30) : ∀ x ∈ lo l q, ltE x q = true := by
  intro x hx
  have := List.all_takeWhile (p := fun x => ltE x q) (l := l)
  rw [List.all_eq_true] at this
  exact this x hx
theorem hi_not : ∀ (l : List S30) (q : S30), Srt l → ∀ x ∈ hi l q, ltE x q = false
  | [], _, _, x, hx => by cases hx
  | a :: l, q, hs, x, hx => by
    unfold hi at hx
    rw [Srt, List.pairwise_cons] at hs
    rw [List.dropWhile_cons] at hx
    by_cases h : ltE a q = true
    · rw [if_pos h] at hx
      exact hi_not l q hs.2 x hx
    · rw [if_neg h] at hx
      have hf : ltE a q = false := by simpa using h
      rcases List.mem_cons.1 hx with rfl | hm
      · exact hf
      · cases hxq : ltE x q with
        | false => rfl
        | true => rw [ltE_trans (hs.1 x hm) hxq] at hf; cases hf
theorem mem_hi {l : List S30} {q x : S30} (hx : x ∈ l) (h : ltE x q = false) : x ∈ hi l q := by
  have h_ := lo_hi l q
  rw [← h_] at hx
  rcases List.mem_append.1 hx with hx | hx
  · rw [lo_lt l q x hx] at h; cases h
  · exact hx
theorem hi_sub {l : List S30} {q x : S30} (hx : x ∈ hi l q) : x ∈ l := by
  rw [← lo_hi l q]; exact List.mem_append_right _ hx
def fromE (l : List S30) (q : S30) : Option S30 := (hi l q).head?
def getE (l : List S30) (norm : ByteArray) (seq : Int) : Option S30 := match fromE l (qE norm seq) with | none => none | some x => if x.f0 = norm then some x else none
def has (l : List S30) (norm : ByteArray) (seq : Int) : Bool := l.any (fun x => decide (x.f0 = norm ∧ x.f1 = seq))
theorem has_iff {l : List S30} {norm : ByteArray} {seq : Int} : has l norm seq = true ↔ ∃ x ∈ l, x.f0 = norm ∧ x.f1 = seq := by
  unfold has
  rw [List.any_eq_true]
  exact ⟨fun ⟨x, hx, h⟩ => ⟨x, hx, of_decide_eq_true h⟩, fun ⟨x, hx, h⟩ => ⟨x, hx, decide_eq_true h⟩⟩
theorem lt_q {y : S30} {norm : ByteArray} {seq : Int} (hk : y.f2 ≤ maxK) (hn : y.f0 = norm) : ltE y (qE norm seq) = decide (y.f1 > seq) := by
  unfold ltE qE
  rw [if_pos (by rw [hn])]
  by_cases h : y.f1 = seq
  · rw [if_pos h]
    rw [decide_eq_false (by show ¬ y.f2 > maxK; omega), decide_eq_false (by omega)]
  · rw [if_neg h]
theorem head_norm {l : List S30} (hs : Srt l) (hk : Kn l) {norm : ByteArray} {seq : Int} {x y : S30} (hx : fromE l (qE norm seq) = some x) (hy : y ∈ l) (hn : y.f0 = norm) (hq : y.f1 ≤ seq) : x.f0 = norm ∧ x.f1 ≤ seq ∧ y.f1 ≤ x.f1 := by
  have hyq : ltE y (qE norm seq) = false := by rw [lt_q (hk y hy) hn]; exact decide_eq_false (by omega)
  have hm := mem_hi hy hyq
  unfold fromE at hx
  cases hd : hi l (qE norm seq) with
  | nil => rw [hd] at hx; cases hx
  | cons z r =>
    rw [hd] at hx hm
    injection hx with hx
    subst hx
    have hzl : z ∈ l := hi_sub (q := qE norm seq) (by rw [hd]; exact List.mem_cons_self)
    have hzq := hi_not l (qE norm seq) hs z (by rw [hd]; exact List.mem_cons_self)
    rcases List.mem_cons.1 hm with rfl | hm
    · exact ⟨hn, hq, Int.le_refl _⟩
    · have hpw : (hi l (qE norm seq)).Pairwise (fun a b => ltE a b = true) := by
        have : (lo l (qE norm seq) ++ hi l (qE norm seq)).Pairwise (fun a b => ltE a b = true) := by rw [lo_hi]; exact hs
        exact (List.pairwise_append.1 this).2.1
      rw [hd, List.pairwise_cons] at hpw
      have hzy := hpw.1 y hm
      by_cases hzn : z.f0 = norm
      · rw [lt_q (hk z hzl) hzn] at hzq
        have hle : ¬ z.f1 > seq := of_decide_eq_false hzq
        refine ⟨hzn, by omega, ?_⟩
        unfold ltE at hzy
        rw [if_pos (by rw [hzn, hn])] at hzy
        by_cases he : z.f1 = y.f1
        · omega
        · rw [if_neg he] at hzy
          have := of_decide_eq_true hzy
          omega
      · have hne : z.f0.toList ≠ norm.toList := fun e => hzn (toList_inj e)
        unfold ltE at hzy hzq
        rw [if_neg (by rw [hn]; exact hne), hn] at hzy
        rw [if_neg (by exact hne)] at hzq
        rw [show (qE norm seq).f0 = norm from rfl] at hzq
        rw [hzq] at hzy; cases hzy
theorem from_none {l : List S30} (hk : Kn l) {norm : ByteArray} {seq : Int} (hx : fromE l (qE norm seq) = none) : ∀ y ∈ l, y.f0 = norm → seq < y.f1 := by
  intro y hy hn
  have hd : hi l (qE norm seq) = [] := by
    unfold fromE at hx
    exact List.head?_eq_none_iff.1 hx
  cases hyq : ltE y (qE norm seq) with
  | false =>
    have := mem_hi hy hyq
    rw [hd] at this; cases this
  | true => rw [lt_q (hk y hy) hn] at hyq; exact of_decide_eq_true hyq
theorem from_mem {l : List S30} {q x : S30} (hx : fromE l q = some x) : x ∈ l := by
  unfold fromE at hx
  exact hi_sub (List.mem_of_mem_head? hx)
theorem get_some {l : List S30} (hs : Srt l) (hk : Kn l) {norm : ByteArray} {seq : Int} {x : S30} (h : getE l norm seq = some x) : x ∈ l ∧ x.f0 = norm ∧ x.f1 ≤ seq ∧ ∀ y ∈ l, y.f0 = norm → y.f1 ≤ seq → y.f1 ≤ x.f1 := by
  unfold getE at h
  cases hf : fromE l (qE norm seq) with
  | none => rw [hf] at h; cases h
  | some z =>
    rw [hf] at h
    simp only at h
    by_cases hn : z.f0 = norm
    · rw [if_pos hn] at h
      injection h with h
      subst h
      have hm := from_mem hf
      refine ⟨hm, hn, ?_, fun y hy hyn hq => (head_norm hs hk hf hy hyn hq).2.2⟩
      have hnot := hi_not l (qE norm seq) hs z (List.mem_of_mem_head? hf)
      rw [lt_q (hk z hm) hn] at hnot
      have := of_decide_eq_false hnot
      omega
    · rw [if_neg hn] at h; cases h
theorem get_none {l : List S30} (hs : Srt l) (hk : Kn l) {norm : ByteArray} {seq : Int} (h : getE l norm seq = none) : ∀ y ∈ l, y.f0 = norm → seq < y.f1 := by
  unfold getE at h
  cases hf : fromE l (qE norm seq) with
  | none => exact from_none hk hf
  | some z =>
    rw [hf] at h
    simp only at h
    intro y hy hn
    by_cases hq : y.f1 ≤ seq
    · have := (head_norm hs hk hf hy hn hq).1
      rw [if_pos this] at h; cases h
    · omega
/-- What Put asks of the first one that stands not ahead. -/
theorem put_asks {l : List S30} (hs : Srt l) (hk : Kn l) (norm : ByteArray) (seq : Int) : has l norm seq = (match fromE l (qE norm seq) with | none => false | some x => decide (x.f0 = norm ∧ x.f1 = seq)) := by
  cases hf : fromE l (qE norm seq) with
  | none =>
    simp only
    cases hh : has l norm seq with
    | false => rfl
    | true =>
      obtain ⟨x, hx, h1, h2⟩ := has_iff.1 hh
      have := from_none hk hf x hx h1
      omega
  | some x =>
    simp only
    cases hh : has l norm seq with
    | true =>
      obtain ⟨y, hy, h1, h2⟩ := has_iff.1 hh
      have := head_norm hs hk hf hy h1 (by omega)
      exact (decide_eq_true ⟨this.1, by omega⟩).symm
    | false =>
      symm
      apply decide_eq_false
      rintro ⟨h1, h2⟩
      rw [has_iff.2 ⟨x, from_mem hf, h1, h2⟩] at hh; cases hh
def insE (l : List S30) (e : S30) : List S30 := lo l e ++ e :: hi l e
theorem mem_insE {l : List S30} {e x : S30} : x ∈ insE l e ↔ x = e ∨ x ∈ l := by
  have h := lo_hi l e
  unfold insE
  constructor
  · intro hx
    rcases List.mem_append.1 hx with hx | hx
    · exact .inr (by rw [← h]; exact List.mem_append_left _ hx)
    · rcases List.mem_cons.1 hx with hx | hx
      · exact .inl hx
      · exact .inr (by rw [← h]; exact List.mem_append_right _ hx)
  · rintro (rfl | hx)
    · exact List.mem_append_right _ List.mem_cons_self
    · rw [← h] at hx
      rcases List.mem_append.1 hx with hx | hx
      · exact List.mem_append_left _ hx
      · exact List.mem_append_right _ (List.mem_cons_of_mem _ hx)
theorem insE_len (l : List S30) (e : S30) : (insE l e).length = l.length + 1 := by
  have h := congrArg List.length (lo_hi l e)
  unfold insE
  rw [List.length_append] at h ⊢
  rw [List.length_cons]; omega
theorem insE_srt {l : List S30} {e : S30} (hs : Srt l) (hh : has l e.f0 e.f1 = false) : Srt (insE l e) := by
  unfold Srt insE
  have h : (lo l e ++ hi l e).Pairwise (fun a b => ltE a b = true) := by rw [lo_hi]; exact hs
  rw [List.pairwise_append] at h
  rw [List.pairwise_append, List.pairwise_cons]
  refine ⟨h.1, ⟨fun y hy => ?_, h.2.1⟩, fun a ha b hb => ?_⟩
  · have h1 := hi_not l e hs y hy
    have h2 : ¬ (y.f0 = e.f0 ∧ y.f1 = e.f1) := fun hc => by rw [has_iff.2 ⟨y, hi_sub hy, hc.1, hc.2⟩] at hh; cases hh
    rw [ltE_total h2, h1]; rfl
  · rcases List.mem_cons.1 hb with rfl | hb
    · exact lo_lt l _ a ha
    · exact h.2.2 a ha b hb
def putL (l : List S30) (e : S30) : List S30 := if has l e.f0 e.f1 then l else insE l e
theorem putL_srt {l : List S30} {e : S30} (hs : Srt l) : Srt (putL l e) := by
  unfold putL
  by_cases h : has l e.f0 e.f1 = true
  · rw [if_pos h]; exact hs
  · rw [if_neg h]; exact insE_srt hs (by simpa using h)
theorem putL_kn {l : List S30} {e : S30} (hk : Kn l) (he : e.f2 ≤ maxK) : Kn (putL l e) := by
  unfold putL
  by_cases h : has l e.f0 e.f1 = true
  · rw [if_pos h]; exact hk
  · rw [if_neg h]
    intro x hx
    rcases mem_insE.1 hx with rfl | hx
    · exact he
    · exact hk x hx
def key (e : S30) : ByteArray × Int := (e.f0, e.f1)
theorem putL_keys {l : List S30} {e : S30} (k : ByteArray × Int) : k ∈ (putL l e).map key ↔ k = key e ∨ k ∈ l.map key := by
  unfold putL
  by_cases h : has l e.f0 e.f1 = true
  · rw [if_pos h]
    refine ⟨fun hk => .inr hk, fun hk => ?_⟩
    rcases hk with rfl | hk
    · obtain ⟨x, hx, h1, h2⟩ := has_iff.1 h
      exact List.mem_map.2 ⟨x, hx, by unfold key; rw [h1, h2]⟩
    · exact hk
  · rw [if_neg h]
    simp only [List.mem_map, mem_insE]
    constructor
    · rintro ⟨x, rfl | hx, hk⟩
      · exact .inl hk.symm
      · exact .inr ⟨x, hx, hk⟩
    · rintro (hk | ⟨x, hx, hk⟩)
      · exact ⟨e, .inl rfl, hk.symm⟩
      · exact ⟨x, .inr hx, hk⟩
/-- Keys stand once. -/
def Once (l : List S30) : Prop := (l.map key).Nodup
theorem putL_once {l : List S30} {e : S30} (ho : Once l) : Once (putL l e) := by
  unfold putL
  by_cases h : has l e.f0 e.f1 = true
  · rw [if_pos h]; exact ho
  · rw [if_neg h]
    unfold Once insE at *
    have h0 : (lo l e ++ hi l e).map key = l.map key := by rw [lo_hi]
    have hn : key e ∉ l.map key := by
      intro hm
      obtain ⟨x, hx, hk⟩ := List.mem_map.1 hm
      have hk1 : x.f0 = e.f0 := congrArg Prod.fst hk
      have hk2 : x.f1 = e.f1 := congrArg Prod.snd hk
      exact h (has_iff.2 ⟨x, hx, hk1, hk2⟩)
    rw [← h0] at ho hn
    rw [List.map_append] at ho hn ⊢
    rw [List.map_cons]
    have hp : List.Perm (key e :: ((lo l e).map key ++ (hi l e).map key)) ((lo l e).map key ++ key e :: (hi l e).map key) := List.perm_middle.symm
    exact hp.nodup (List.nodup_cons.2 ⟨hn, ho⟩)
theorem cmpB : ∀ a b : List UInt8, (Lib.compareBytes a b < 0 ↔ Op.bytesLess a b = true) ∧ (Lib.compareBytes a b = 0 ↔ a = b)
  | [], [] => by simp [Lib.compareBytes, Op.bytesLess]
  | [], _ :: _ => by simp [Lib.compareBytes, Op.bytesLess]
  | _ :: _, [] => by simp [Lib.compareBytes, Op.bytesLess]
  | x :: a, y :: b => by
    have ih := cmpB a b
    unfold Lib.compareBytes
    unfold Op.bytesLess
    by_cases h1 : x < y
    · have hne : x ≠ y := fun e => by subst e; exact absurd h1 (UInt8.lt_irrefl x)
      simp [h1, hne]
    · by_cases h2 : y < x
      · have hne : x ≠ y := fun e => by subst e; exact absurd h2 (UInt8.lt_irrefl x)
        simp [h1, h2, hne]
      · have he : x = y := UInt8.le_antisymm (UInt8.not_lt.1 h2) (UInt8.not_lt.1 h1)
        subst he
        simp [UInt8.lt_irrefl, ih.1, ih.2]
theorem Less_eq (a0 : ByteArray) (a1 a2 : Int) (a3 a4 : ByteArray) (b0 : ByteArray) (b1 b2 : Int) (b3 b4 : ByteArray) : ∃ r, ikey_Less.f a0 a1 a2 a3 a4 b0 b1 b2 b3 b4 = some r ∧ incipitref12_Less.f a0 a1 a2 a3 a4 b0 b1 b2 b3 b4 = some r := by
  have h := cmpB a0.data.toList b0.data.toList
  have hn1 : ∀ x : Int, cmp_isNaN_int64.f x = some false := fun x => by simp [cmp_isNaN_int64.f]
  have hn2 : ∀ x : Int, cmp_isNaN_int.f x = some false := fun x => by simp [cmp_isNaN_int.f]
  simp only [ikey_Less.f, ikey_Compare.f, strings_Compare.f, cmp_Compare_int64.f, cmp_Compare_int.f, hn1, hn2, incipitref12_Less.f, Option.bind_some, Lib.toList_data, Bool.false_eq_true, if_false]
  generalize Lib.compareBytes a0.data.toList b0.data.toList = c at h ⊢
  by_cases e : a0.data.toList = b0.data.toList
  · have c0 := h.2.2 e
    rw [if_pos c0, if_pos e]
    by_cases e1 : a1 = b1
    · subst e1
      simp only [Int.lt_irrefl, if_false, gt_iff_lt, Option.bind_some, if_true]
      by_cases l : b2 < a2
      · refine ⟨true, ?_, ?_⟩ <;> simp [l]
      · by_cases l2 : a2 < b2
        · refine ⟨false, ?_, ?_⟩ <;> simp [l, l2]
        · refine ⟨false, ?_, ?_⟩ <;> simp [l, l2]
    · rw [if_neg e1]
      by_cases l : b1 < a1
      · refine ⟨true, ?_, ?_⟩ <;> simp [l]
      · have l2 : b1 > a1 := by omega
        refine ⟨false, ?_, ?_⟩ <;> simp [l, l2]
  · have c0 : ¬ c = 0 := fun z => e (h.2.1 z)
    rw [if_neg c0, if_neg e]
    refine ⟨decide (c < 0), rfl, ?_⟩
    congr 1
    rw [Bool.eq_iff_iff, decide_eq_true_eq]
    exact h.1.symm
theorem less_f (a b : S30) : ikey_Less.f a.f0 a.f1 a.f2 a.f3 a.f4 b.f0 b.f1 b.f2 b.f3 b.f4 = some (ltE a b) := by
  obtain ⟨r, h1, h2⟩ := Less_eq a.f0 a.f1 a.f2 a.f3 a.f4 b.f0 b.f1 b.f2 b.f3 b.f4
  rw [h1, ← h2]
  unfold incipitref12_Less.f ltE
  by_cases e1 : a.f0.toList = b.f0.toList
  · rw [if_pos e1, if_pos e1]
    by_cases e2 : a.f1 = b.f1
    · rw [if_pos e2, if_pos e2]
    · rw [if_neg e2, if_neg e2]
  · rw [if_neg e1, if_neg e1]
theorem ref_less_f (a b : S30) : incipitref12_Less.f a.f0 a.f1 a.f2 a.f3 a.f4 b.f0 b.f1 b.f2 b.f3 b.f4 = some (ltE a b) := by
  obtain ⟨r, h1, h2⟩ := Less_eq a.f0 a.f1 a.f2 a.f3 a.f4 b.f0 b.f1 b.f2 b.f3 b.f4
  rw [h2, ← h1]
  exact less_f a b
end Go.Proofs.Ytoglanahjlfihaa.QLst
