import Derived.Test.YtoglanahjlfihaaHLst12
import Derived.Test.YtoglanahjlfihaaQLstBasic
namespace Go.Proofs.Ytoglanahjlfihaa.MLst
open Go.RowKit Go.Proofs.Ytoglanahjlfihaa.QLst Go.Proofs.YtoglanahjlfihaaW.PrintWords Go.Proofs.YtoglanahjlfihaaW.PrintLast Go.Proofs.YtoglanahjlfihaaW.PrintMore
set_option linter.unusedVariables false
set_option linter.unusedSimpArgs false
theorem cut_some (a : ByteArray) (n : Nat) : ∃ r, incipitlaw1_Cut.f a (n : Int) = some r ∧ r.size ≤ n := by
  unfold incipitlaw1_Cut.f
  by_cases h : (a.size : Int) > n
  · refine ⟨_, by rw [if_pos h, if_pos (by omega), if_pos (by omega)], ?_⟩
    rw [ByteArray.size_extract]
    omega
  · exact ⟨a, by rw [if_neg h], by omega⟩
/-- What may stand in a list here. -/
def Small (x : S30) : Prop := x.f0.size ≤ 30 ∧ x.f3.size ≤ 30 ∧ x.f4.size ≤ 60 ∧ x.f2 ≤ maxK
theorem Cut_small (a0 : ByteArray) (a1 a2 : Int) (a3 a4 : ByteArray) (h : a2 ≤ maxK) : ∃ c0 c3 c4, incipitlaw7_Cut.f a0 a1 a2 a3 a4 = some (c0, a1, a2, c3, c4) ∧ Small ⟨c0, a1, a2, c3, c4⟩ := by
  obtain ⟨c0, h0, s0⟩ := cut_some a0 30
  obtain ⟨c3, h3, s3⟩ := cut_some a3 30
  obtain ⟨c4, h4, s4⟩ := cut_some a4 60
  refine ⟨c0, c3, c4, ?_, s0, s3, s4, h⟩
  unfold incipitlaw7_Cut.f
  rw [show (30 : Int) = ((30 : Nat) : Int) from rfl, show (60 : Int) = ((60 : Nat) : Int) from rfl, h0, h3, h4]; rfl
theorem rd_nat30 (l : List S30) (i : Nat) (h : i < l.length) : rd_T30 l (i : Int) = l[i] := by
  unfold rd_T30
  rw [Int.toNat_natCast, List.getD_eq_getElem?_getD, List.getElem?_eq_getElem h]; rfl
theorem CutAll_l0 (l : List S30) (hl : ∀ x ∈ l, x.f2 ≤ maxK) (n : Nat) (hn : n ≤ 1000) (d : Nat) : ∀ (i : Nat) (out : List S30), min l.length n - i = d → i ≤ n → out.length ≤ i → (∀ x ∈ out, Small x) → ∃ t, Ev (fun k => incipitlaw7_CutAll.l0 k l (n : Int) out (i : Int)) t ∧ t.length ≤ n ∧ ∀ x ∈ t, Small x := by
  induction d with
  | zero =>
    intro i out hd hi ho hs
    refine ⟨out, Ev.succ ?_, by omega, hs⟩
    simp only [incipitlaw7_CutAll.l0]
    by_cases c : i < l.length
    · exact Ev.ite_pos (by omega) (Ev.ite_neg (by omega) (Ev.now _))
    · exact Ev.ite_neg (by omega) (Ev.now _)
  | succ d ih =>
    intro i out hd hi ho hs
    have hlt : i < l.length := by omega
    obtain ⟨c0, c3, c4, hc, hsm⟩ := Cut_small l[i].f0 l[i].f1 l[i].f2 l[i].f3 l[i].f4 (hl _ (List.getElem_mem hlt))
    obtain ⟨t, h1, h2, h3⟩ := ih (i + 1) (out ++ [(⟨c0, l[i].f1, l[i].f2, c3, c4⟩ : S30)]) (by omega) (by omega) (by rw [List.length_append, List.length_singleton]; omega) (fun x hx => by
      rcases List.mem_append.1 hx with hx | hx
      · exact hs x hx
      · rw [List.mem_singleton.1 hx]; exact hsm)
    refine ⟨t, Ev.succ ?_, h2, h3⟩
    simp only [incipitlaw7_CutAll.l0, rd_nat30 l i hlt, hc, Option.bind_some]
    rw [wrap64_id (n := (i : Int) + 1) (by omega) (by omega)]
    exact Ev.ite_pos (by omega) (Ev.ite_pos (by omega) (Ev.ite_pos (by omega) (Ev.ite_pos (by omega) h1)))
theorem CutAll_ev (l : List S30) (hl : ∀ x ∈ l, x.f2 ≤ maxK) (n : Nat) (hn : n ≤ 1000) : ∃ t, Ev (fun k => incipitlaw7_CutAll.f k l (n : Int)) t ∧ t.length ≤ n ∧ ∀ x ∈ t, Small x :=
  CutAll_l0 l hl n hn (min l.length n) 0 [] rfl (Nat.zero_le _) (Nat.le_refl _) (fun x hx => by cases hx)
theorem Sorted_l0 (l : List S30) (hs : Srt l) (hl : l.length < 1000000) (d : Nat) : ∀ i : Nat, l.length - (i + 1) = d → Ev (fun k => incipitref12_Sorted.l0 k l ((i + 1 : Nat) : Int)) true := by
  induction d with
  | zero =>
    intro i hd
    refine Ev.succ ?_
    simp only [incipitref12_Sorted.l0]
    exact Ev.ite_neg (by omega) (Ev.now _)
  | succ d ih =>
    intro i hd
    have h1 : i + 1 < l.length := by omega
    have ei : wrap64 (((i + 1 : Nat) : Int) - 1) = ((i : Nat) : Int) := by rw [wrap64_id (by omega) (by omega)]; omega
    have en : wrap64 (((i + 1 : Nat) : Int) + 1) = ((i + 1 + 1 : Nat) : Int) := by rw [wrap64_id (by omega) (by omega)]; omega
    have hlt : ltE l[i] l[i + 1] = true := List.pairwise_iff_getElem.1 hs i (i + 1) (by omega) h1 (by omega)
    refine Ev.succ ?_
    simp only [incipitref12_Sorted.l0, ei, en, ref_less_f, rd_nat30 l i (by omega), rd_nat30 l (i + 1) h1, Option.bind_some]
    exact Ev.ite_pos (by omega) (Ev.ite_pos (by omega) (Ev.ite_pos (by omega) (Ev.ite_pos (by omega) (Ev.ite_pos hlt (ih (i + 1) (by omega))))))
theorem Sorted_ev (l : List S30) (hs : Srt l) (hl : l.length < 1000000) : Ev (fun k => incipitref12_Sorted.f k l) true := Sorted_l0 l hs hl (l.length - 1) 0 rfl
/-- All put in, one behind the other. -/
def putAll (es : List S30) : List S30 := es.foldl putL []
theorem putAll_snoc (es : List S30) (e : S30) : putAll (es ++ [e]) = putL (putAll es) e := by unfold putAll; rw [List.foldl_append]; rfl
theorem putL_len (l : List S30) (e : S30) : (putL l e).length ≤ l.length + 1 := by
  unfold putL
  by_cases h : has l e.f0 e.f1 = true
  · rw [if_pos h]; omega
  · rw [if_neg h, insE_len]; omega
theorem putL_small {l : List S30} {e : S30} (hl : ∀ x ∈ l, Small x) (he : Small e) : ∀ x ∈ putL l e, Small x := by
  unfold putL
  by_cases h : has l e.f0 e.f1 = true
  · rw [if_pos h]; exact hl
  · rw [if_neg h]
    intro x hx
    rcases mem_insE.1 hx with rfl | hx
    · exact he
    · exact hl x hx
theorem foldl_facts : ∀ (es l : List S30), Srt l → Kn l → Once l → (∀ x ∈ es, Small x) → Srt (es.foldl putL l) ∧ Kn (es.foldl putL l) ∧ Once (es.foldl putL l) ∧ (es.foldl putL l).length ≤ l.length + es.length ∧ ∀ k, k ∈ (es.foldl putL l).map key ↔ k ∈ es.map key ∨ k ∈ l.map key
  | [], l, h1, h2, h3, _ => ⟨h1, h2, h3, Nat.le_refl _, fun k => by simp⟩
  | e :: es, l, h1, h2, h3, h4 => by
    have he := h4 e List.mem_cons_self
    obtain ⟨a1, a2, a3, a4, a5⟩ := foldl_facts es (putL l e) (putL_srt h1) (putL_kn h2 he.2.2.2) (putL_once h3) (fun x hx => h4 x (List.mem_cons_of_mem _ hx))
    rw [List.foldl_cons]
    refine ⟨a1, a2, a3, by have := putL_len l e; rw [List.length_cons]; omega, fun k => ?_⟩
    rw [a5, putL_keys, List.map_cons, List.mem_cons]
    constructor
    · rintro (h | h | h)
      · exact .inl (.inr h)
      · exact .inl (.inl h)
      · exact .inr h
    · rintro ((h | h) | h)
      · exact .inr (.inl h)
      · exact .inl h
      · exact .inr (.inr h)
theorem putAll_facts (es : List S30) (h : ∀ x ∈ es, Small x) : Srt (putAll es) ∧ Kn (putAll es) ∧ Once (putAll es) ∧ (putAll es).length ≤ es.length ∧ ∀ k, k ∈ (putAll es).map key ↔ k ∈ es.map key := by
  obtain ⟨a1, a2, a3, a4, a5⟩ := foldl_facts es [] List.Pairwise.nil (fun x hx => by cases hx) List.Pairwise.nil h
  exact ⟨a1, a2, a3, by have h_ := a4; rw [List.length_nil, Nat.zero_add] at h_; exact h_, fun k => by rw [show putAll es = es.foldl putL [] from rfl, a5]; simp⟩
/-- However they come in: as many. -/
theorem putAll_rev (es : List S30) (h : ∀ x ∈ es, Small x) : (putAll es.reverse).length = (putAll es).length := by
  obtain ⟨_, _, o1, _, k1⟩ := putAll_facts es h
  obtain ⟨_, _, o2, _, k2⟩ := putAll_facts es.reverse (fun x hx => h x (List.mem_reverse.1 hx))
  have hp := (List.perm_ext_iff_of_nodup o2 o1).2 (fun k => by rw [k1, k2]; simp)
  have := hp.length_eq
  rw [List.length_map, List.length_map] at this
  exact this
/-- Each is found. -/
theorem putAll_get (es : List S30) (h : ∀ x ∈ es, Small x) (e : S30) (he : e ∈ es) : ∃ x, getE (putAll es) e.f0 e.f1 = some x ∧ x.f0 = e.f0 := by
  obtain ⟨s, k, _, _, kk⟩ := putAll_facts es h
  have hm : key e ∈ (putAll es).map key := (kk _).2 (List.mem_map_of_mem he)
  obtain ⟨y, hy, hk⟩ := List.mem_map.1 hm
  have h0 : y.f0 = e.f0 := congrArg Prod.fst hk
  have h1 : y.f1 = e.f1 := congrArg Prod.snd hk
  cases hg : getE (putAll es) e.f0 e.f1 with
  | none => have := get_none s k hg y hy h0; omega
  | some x => exact ⟨x, rfl, (get_some s k hg).2.1⟩
theorem rows30_kept {w w' : World} {base : Nat} {S : Nat → Prop} {v : Value} {l : List S30} (h : Kd.R k30 30 w base (fun _ => True) v l) (hk : Kept w w' S) (hS : ∀ i, S i → ∃ cs t, w.heap[i]? = some (.cells cs t (0, 0)) ∧ t ≠ 30) : Kd.R k30 30 w' base (fun _ => True) v l := by
  obtain ⟨hok, inner, hown, hr⟩ := h
  refine ⟨hok, inner, own_move hown (fun k hk2 => hk.2 k (own_lt hown k hk2) (fun hs => ?_)), hr.imp_ (fun p c hp => by rw [k30_openM hp]; exact k30_mkM _ _ _ _)⟩
  obtain ⟨cells, hcell⟩ := own_typed hown k hk2
  obtain ⟨cs, t, hc, ht⟩ := hS k hs
  rw [hcell] at hc
  injection hc with hc
  injection hc with _ ht2
  exact ht ht2.symm
end Go.Proofs.Ytoglanahjlfihaa.MLst
