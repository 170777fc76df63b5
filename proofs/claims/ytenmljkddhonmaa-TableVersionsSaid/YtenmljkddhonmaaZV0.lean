import Derived.Test.YtenmljkddhonmaaZ10
import Derived.Deep.Slices
import Derived.Deep.Fields
import Derived.ChangeArms
import Derived.ChangeSame
import Derived.WalkKit
import Derived.ProofKit
import Derived.OpenShut
import Derived.Test.YtenmljkddhonmaaZ1
namespace Go.Proofs.Ytenmljkddhonmaa.MTbl
open Go.RowKit Go.Proofs.Ytenmljkddhonmaa.QTbl Go.Proofs.YtenmljkddhonmaaW.PrintWords Go.Proofs.YtenmljkddhonmaaW.PrintLast Go.Proofs.YtenmljkddhonmaaW.PrintMore
set_option linter.unusedVariables false
set_option linter.unusedSimpArgs false
/-! TableVersions: the entries, by their numbers falling -/
def vEnt (i : Nat) : S28 := ⟨⟨#[107]⟩, 2 * (i : Int), (i : Int) % 2, ⟨#[107]⟩, ⟨#[]⟩⟩
def vL : Nat → List S28
  | 0 => []
  | i + 1 => vEnt (i + 1) :: vL i
theorem vL_length : ∀ n, (vL n).length = n
  | 0 => rfl
  | n + 1 => by rw [vL, List.length_cons, vL_length n]
theorem vL_mem {x : S28} : ∀ {n : Nat}, x ∈ vL n → ∃ i, 1 ≤ i ∧ i ≤ n ∧ x = vEnt i
  | 0, h => by simp [vL] at h
  | n + 1, h => by
    rw [vL] at h
    rcases List.mem_cons.1 h with rfl | h
    · exact ⟨n + 1, by omega, Nat.le_refl _, rfl⟩
    · obtain ⟨i, h1, h2, h3⟩ := vL_mem h
      exact ⟨i, h1, by omega, h3⟩
theorem vEnt_lt {i j : Nat} (h : j < i) : srtR (vEnt i) (vEnt j) := by
  refine ⟨?_, fun ⟨_, h2⟩ => ?_⟩
  · unfold ltS lt3
    rw [if_pos (show (vEnt i).f0.toList = (vEnt j).f0.toList from rfl), if_neg (show ¬ (vEnt i).f1 = (vEnt j).f1 by show ¬ (2 * (i : Int) = 2 * (j : Int)); omega)]
    exact decide_eq_true (show 2 * (i : Int) > 2 * (j : Int) by omega)
  · simp only [vEnt] at h2; omega
theorem vL_sorted : ∀ n, (vL n).Pairwise srtR
  | 0 => List.Pairwise.nil
  | n + 1 => by
    rw [vL, List.pairwise_cons]
    refine ⟨fun x hx => ?_, vL_sorted n⟩
    obtain ⟨i, _, h2, rfl⟩ := vL_mem hx
    exact vEnt_lt (by omega)
theorem vEnt_ok {i : Nat} (h1 : 1 ≤ i) (h2 : i ≤ 60) : okB (vEnt i) ∧ okM (vEnt i) = true := by
  have hd : i % 2 = 0 ∨ i % 2 = 1 := by omega
  refine ⟨⟨⟨⟨?_, ?_⟩, ?_, (by show (1 : Nat) ≤ 30; decide)⟩, (by show (1 : Nat) ≤ 1000; decide), (by show (0 : Nat) ≤ 1000; decide)⟩, ?_⟩
  · simp only [vEnt]; omega
  · simp only [vEnt]; omega
  · simp only [vEnt]; omega
  · unfold okM
    have e4 : (vEnt i).f4.toList = [] := by show (⟨#[]⟩ : ByteArray).toList = []; rw [Lib.toList_data]
    have a1 : 1 ≤ (vEnt i).f1 := by simp only [vEnt]; omega
    have a2 : (vEnt i).f1 ≤ 1125899906842624 := by simp only [vEnt]; omega
    have a3 : (vEnt i).f2 = 1 ∨ (vEnt i).f2 = 0 := by simp only [vEnt]; omega
    rw [e4, decide_eq_true a1, decide_eq_true a2]
    rcases a3 with h | h <;> simp [h]
theorem vL_tab {n : Nat} (h1 : 1 ≤ n) (h2 : n ≤ 60) : ∃ flt, Tab (vL n) flt := by
  have hne : vL n ≠ [] := fun h => by have := vL_length n; rw [h] at this; simp at this; omega
  have ho : ∀ x ∈ vL n, okB x ∧ okM x = true := fun x hx => by
    obtain ⟨i, a1, a2, rfl⟩ := vL_mem hx
    exact vEnt_ok a1 (by omega)
  exact Tab.of hne (by rw [vL_length]; omega) (vL_sorted n) (fun x hx => (ho x hx).1) (mayL_of _ _ (vL_sorted n) (fun x hx => (ho x hx).2) (fun q hq => by cases hq))
theorem vL_find : ∀ (n : Nat) (q : Int), rfind ⟨#[107]⟩ q (vL n) = if q < 2 ∨ n = 0 then none else some (vEnt (min n (q / 2).toNat))
  | 0, q => by rw [if_pos (.inr rfl)]; rfl
  | n + 1, q => by
    have ih := vL_find n q
    have hh : hitB ⟨#[107]⟩ q (vEnt (n + 1)) = decide (2 * ((n + 1 : Nat) : Int) ≤ q) := by
      unfold hitB
      rw [show ((vEnt (n + 1)).f0.toList == (⟨#[107]⟩ : ByteArray).toList) = true from beq_iff_eq.2 rfl, Bool.true_and]
      rfl
    rw [vL, rfind, hh]
    by_cases h : 2 * ((n + 1 : Nat) : Int) ≤ q
    · rw [decide_eq_true h, if_pos rfl, if_neg (by omega), Nat.min_eq_left (by omega)]
    · rw [decide_eq_false h, if_neg (by simp), ih]
      by_cases h2 : q < 2
      · rw [if_pos (.inl h2), if_pos (.inl h2)]
      · rw [if_neg (by omega), if_neg (by omega), Nat.min_eq_right (by omega), Nat.min_eq_right (by omega)]
end Go.Proofs.Ytenmljkddhonmaa.MTbl

namespace Go.Proofs.Ytenmljkddhonmaa.MTbl
open Go.RowKit Go.Proofs.Ytenmljkddhonmaa.QTbl Go.Proofs.YtenmljkddhonmaaW.PrintWords Go.Proofs.YtenmljkddhonmaaW.PrintLast Go.Proofs.YtenmljkddhonmaaW.PrintMore
set_option linter.unusedVariables false
set_option linter.unusedSimpArgs false
theorem vGet (w3 : World) (g : Nat) (flt : List Int) (bl n : Nat) (q : Int) (hI : TabI w3 g (vL n) flt bl) (hF : FltOK flt (vL n)) (hn : n ≤ 60) (x : S28) (b : Bool) (hx : x = (rfind ⟨#[107]⟩ q (vL n)).getD z28) (hb : b = (rfind ⟨#[107]⟩ q (vL n)).isSome) : Calls Try.prog 24 #[.pointer (some ⟨g,0,none⟩),.string ⟨#[107]⟩,.int .i64 q] w3 fun e w' => e = .returned (.tuple #[.agg #[.string x.f0,.int .i64 x.f1,.int .i64 x.f2,.string x.f3,.string x.f4],.bool b,.int .i64 0]) ∧ Below w3.heap.size w3 w' :=
  table_GetS.calls w3 g (vL n) flt bl ⟨#[107]⟩ q x b hI (by rw [vL_length]; omega) (vL_sorted n) hF (by decide) hx hb
set_option maxHeartbeats 2000000 in
set_option maxRecDepth 1000000 in
theorem incipitlaw17_TableVersions.calls (a0 a1 : Int) (w : World) (hw0 : (Lit.int .i64 a0).wf = true) (hw1 : (Lit.int .i64 a1).wf = true) :
    Calls Try.prog 7 #[.int .i64 a0, .int .i64 a1] w fun e w' => e = .returned (.bool true) ∧ Below w.heap.size w w' := by
  have hu28 := Try.underlying28
  have HBEG := Aside0.mk (law_begun.calls w)
  by_cases h1 : a0 < 1
  · have p1 : (a0 < 1) = True := eq_true h1
    go_enter Try.func7, Try.ntmps7
    go_wp2_with (first | (go_at_call 20; refine HBEG.out.mono ?_; rintro e w2 ⟨rfl, hb⟩; have HB := Aside0.mk hb; clear hb))
    go_ret
    exact ⟨rfl, HB.out⟩
  · by_cases h2 : 60 < a0
    · have p1 : (a0 < 1) = False := eq_false h1
      have p2 : (60 < a0) = True := eq_true h2
      go_enter Try.func7, Try.ntmps7
      go_wp2_with (first | (go_at_call 20; refine HBEG.out.mono ?_; rintro e w2 ⟨rfl, hb⟩; have HB := Aside0.mk hb; clear hb))
      go_ret
      exact ⟨rfl, HB.out⟩
    · obtain ⟨n, rfl⟩ : ∃ n : Nat, a0 = n := ⟨a0.toNat, by omega⟩
      have p1 : ((n : Int) < 1) = False := eq_false h1
      have p2 : (60 < (n : Int)) = False := eq_false h2
      obtain ⟨flt, hT⟩ := vL_tab (n := n) (by omega) (by omega)
      have HT := Aside0.mk hT
      have HQ := Aside0.mk hw1
      clear hT hw0 hw1
      go_enter Try.func7, Try.ntmps7
      go_wp2_with (first | (go_at_call 20; refine HBEG.out.mono ?_; rintro e w2 ⟨rfl, hb⟩; have HB := Aside0.mk hb; clear hb))
      go_loopg [6,7] n (fun kx s6 s7 wr => ∃ (i : Nat) (u : Value) (pre : List S28),s6 = u ∧ s7 = .int .i64 i ∧ i ≤ n ∧ i ≤ kx ∧ vL n = pre ++ vL i ∧ Aside0 (Kd.R k28 28 wr w.heap.size (fun _ => True) u pre) ∧ Aside0 (Below w.heap.size w wr))
      case atStart => exact ⟨n, _, [], rfl, rfl, Nat.le_refl _, Nat.le_refl _, rfl, ⟨Kd.R_nil _ _ _ _ _⟩, HB⟩
      case round =>
        clear HB HBEG
        obtain ⟨i, u6, pre, rfl, rfl, hie, hik, hpre, HO, HB⟩ := hrel
        have hpl : pre.length + i = n := by have := congrArg List.length hpre; rw [List.length_append, vL_length, vL_length] at this; omega
        have HPRE := Aside0.mk hpre
        clear hpre
        by_cases hi : 1 ≤ i
        · cases gk with
          | zero => omega
          | succ k1 =>
          have p3 : ((1 : Int) ≤ (i : Int)) = True := eq_true (by omega)
          go_wp2_with (first | ((with_reducible refine gate_builtin (b := .append) (xs := #[.tmp 30,.tmp 36]) rfl ?_);at_builtin;refine Kd.R_append k28 (w0 := w) (W := wr) w.heap.size rfl (.tmp 30) (.tmp 36) 24 28 (.agg #[(.string ⟨#[]⟩),(.int .i64 0),(.int .i64 0),(.string ⟨#[]⟩),(.string ⟨#[]⟩)]) 64 rfl Try.underlying24 info28 rfl (by decide) (by omega) u6 pre (vEnt i) [.string ⟨#[107]⟩,.int .i64 (2 * (i : Int)),.int .i64 ((i : Int) % 2),.string ⟨#[107]⟩,.string ⟨#[]⟩] (fun _ => True) (fun _ => False) rfl rfl ?aP (fun _ hk => hk.elim) ?aF ?aO ?aB ?aS ?aL ?_;(case aP => exact k28_mkM _ _ _ (vEnt i));(case aB => exact HB.out);(case aF => exact (fun _ _ => trivial));(case aO => exact HO.out);(case aS => exact below_size HB.out);(case aL => omega);intro v6 w6 ho hb hg hat;have HO6 := Aside0.mk ho;have HB6 := Aside0.mk hb;clear ho hb hg hat))
          go_roundg k1
          case measure => omega
          case rel => exact ⟨i - 1,_,pre ++ [vEnt i],rfl,by rw [show ((i - 1 : Nat) : Int) = (i : Int) - 1 by omega],by omega,by omega,by rw [HPRE.out,show i = (i - 1) + 1 by omega,vL,List.append_assoc];rfl,HO6,HB6⟩
        · obtain rfl : i = 0 := by omega
          have hpre := HPRE.out
          rw [show vL 0 = [] from rfl, List.append_nil] at hpre
          subst hpre
          obtain ⟨A6, c6, e6⟩ := Kd.R_slice HO.out
          subst e6
          have hX := Kd.R_reads' HO.out
          have HBU := Aside0.mk (HT.out.build A6 c6 wr hX.2.2 hX.2.1)
          obtain ⟨n6, hn6⟩ : ∃ n6, n6 = (vL n).length := ⟨_, rfl⟩
          rw [← hn6] at HBU
          rw [← hn6]
          clear hX HO hn6
          go_wp2_with (first
            | (go_at_call 22;refine HBU.out.mono ?_;rintro e w3 ⟨v,rfl,hR,hb⟩;obtain ⟨A2,c2,e2⟩ := Kd.R_slice hR;subst e2;have hX := Kd.R_reads' hR;have HO2 := Aside0.mk (HT.out.opn A2 c2 w3 hX.2.2 hX.2.1);generalize (tblB (vL n) flt).length = n2 at *;have HB2 := Aside0.mk (below_step HB.out hb);clear hR hb hX)
            | (go_at_call 23; refine HO2.out.mono ?_; rintro e w4 ⟨g, rfl, hI, hb⟩; have HI3 := Aside0.mk hI; have HB3 := Aside0.mk (below_step HB2.out hb); clear hI hb))
          obtain ⟨x, hx⟩ : ∃ x, x = (rfind ⟨#[107]⟩ a1 (vL n)).getD z28 := ⟨_, rfl⟩
          obtain ⟨b, hb⟩ : ∃ b, b = (rfind ⟨#[107]⟩ a1 (vL n)).isSome := ⟨_, rfl⟩
          have HG := Aside0.mk (vGet w4 g flt _ n a1 HI3.out HT.out.ok (by omega) x b hx hb)
          rw [vL_find] at hx hb
          by_cases hq : a1 < 2
          · have p5 : (a1 < 2) = True := eq_true hq
            rw [if_pos (.inl hq)] at hx hb
            have hb' : b = false := hb
            subst hb'
            clear hx hb
            go_wp2_with (first | (go_at_call 24;refine HG.out.mono ?_;rintro e w5 ⟨rfl,hb⟩;have HB5 := Aside0.mk (below_alloc (below_step HB3.out hb) (.cells #[.string x.f0,.int .i64 x.f1,.int .i64 x.f2,.string x.f3,.string x.f4] 28));clear hb))
            go_ret
            exact ⟨rfl, HB5.out⟩
          · have p5 : (a1 < 2) = False := eq_false hq
            rw [if_neg (by omega)] at hx hb
            have hb' : b = true := hb
            have hx' : x = vEnt (min n (a1 / 2).toNat) := hx
            subst hb'
            have hmm : ((min n (a1 / 2).toNat : Nat) : Int) = min (n : Int) (a1 / 2) := by omega
            have f1 : x.f1 = 2 * min (n : Int) (a1 / 2) := by rw [hx', ← hmm]; rfl
            have f2 : x.f2 = min (n : Int) (a1 / 2) % 2 := by rw [hx', ← hmm]; rfl
            have hwf : -9223372036854775808 ≤ a1 ∧ a1 ≤ 9223372036854775807 := by simpa [Lit.wf, IntKind.min, IntKind.max, IntKind.signed, IntKind.bits] using HQ.out
            have htm : (min (n : Int) (a1 / 2)).tmod 2 = min (n : Int) (a1 / 2) % 2 := Int.tmod_eq_emod_of_nonneg (by omega)
            have hwd : wrap64 (a1.tdiv 2) = a1 / 2 := by rw [Int.tdiv_eq_ediv_of_nonneg (by omega), wrap64_id (by omega) (by omega)]
            have HF := Aside0.mk (And.intro f1 f2)
            clear hx hb hx' hmm
            go_wp2_with (first | (go_at_call 24;refine HG.out.mono ?_;rintro e w5 ⟨rfl,hb⟩;have HB5 := Aside0.mk (below_alloc (below_step HB3.out hb) (.cells #[.string x.f0,.int .i64 x.f1,.int .i64 x.f2,.string x.f3,.string x.f4] 28));clear hb))
            go_ret
            have HB6 := HB5.out
            rw [HF.out.1, HF.out.2] at HB6
            exact ⟨rfl, HB6⟩
end Go.Proofs.Ytenmljkddhonmaa.MTbl

/- Arguments that are read as data, opened as values of a kind: whole numbers, texts, slices of what can be opened. -/
namespace Go.Proofs.Ytenmljkddhonmaa.QTbl
open Go.RowKit Go.Proofs.Ytenmljkddhonmaa.MTbl Go.Proofs.YtenmljkddhonmaaW.PrintWords Go.Proofs.YtenmljkddhonmaaW.PrintLast Go.Proofs.YtenmljkddhonmaaW.PrintMore
set_option linter.unusedVariables false
set_option linter.unusedSimpArgs false
open Go.ChangeShapes Go.WideShapes Go.Deep
/-- What reads as data of a type is of a kind, and of a kind of values. -/
def Opens {α : Type} (P : Program) (t : TypeId) (d : Kd α) (G : α → Prop) : Prop :=
  ∀ {H : Type} (enc : TypeId × Value → H) (w : World) (n : Nat) (cs : List Value) (y : DataW H × List MemPlace), DataW.trod enc P w 0 (fun _ => true) true n t cs = some y → ∃ x, d.K w x cs ∧ G x
theorem Opens.int {P : Program} {t : TypeId} {k : IntKind} (ht : P.underlying t = some (.int k)) : Opens P t (Kd.int k) (fun x => (Lit.int k x).wf = true) := by
  intro H enc w n cs y h
  obtain ⟨x, rfl, _, hw⟩ := DataW.trod_int ht h
  exact ⟨x, rfl, hw⟩
theorem Opens.bool {P : Program} {t : TypeId} (ht : P.underlying t = some .bool) : Opens P t Kd.bool (fun _ => True) := by
  intro H enc w n cs y h
  obtain ⟨x, rfl, _⟩ := DataW.trod_bool ht h
  exact ⟨x, rfl, trivial⟩
theorem Opens.str {P : Program} {t : TypeId} (ht : P.underlying t = some .string) : Opens P t Kd.string (fun s => s.size ≤ maxLen) := by
  intro H enc w n cs y h
  obtain ⟨x, rfl, _, hw⟩ := DataW.trod_string ht h
  exact ⟨x, rfl, hw⟩
theorem Opens.slice {α : Type} {P : Program} {t e : TypeId} {d : Kd α} {G : α → Prop} (ht : P.underlying t = some (.slice e)) (hc : P.cellsOf e = d.sz) (he : Opens P e d G) :
    Opens P t (Kd.slice e d) (fun xs => xs.length ≤ maxLen ∧ ∀ x ∈ xs, G x) := by
  intro H enc w n cs y h
  rcases open_slice ht h with ⟨rfl, _⟩ | ⟨a, len, cap, m, n', D, Pl, rfl, _, hl, hm, hmm, _, hi⟩
  · exact ⟨[], ⟨none, 0, rfl, Nat.le_refl _, ⟨rfl, by simp, fun h => absurd h (Nat.lt_irrefl 0)⟩⟩, Nat.zero_le _, fun x hx => by cases hx⟩
  · have hmc : m = cap := by simpa using hmm
    have hch : ∀ i, i < len → ∃ x : α, G x ∧ ∃ c, c.length = d.sz ∧ d.K w x c ∧ ∀ j u, c[j]? = some u → w.cell? (a.add (i * d.sz + j)) = some u := by
      intro i hil
      obtain ⟨cs', hcs, htr⟩ := hi i (by omega)
      obtain ⟨x, hK, hG⟩ := he enc w n' cs' _ htr
      refine ⟨x, hG, cs', d.K_len hK, hK, fun j u hu => ?_⟩
      obtain ⟨_, hcl, hat⟩ := World.cells?_some hcs
      have hj := (List.getElem?_eq_some_iff.1 hu).1
      have := hat j (by have := d.K_len hK; omega)
      rw [← hc, ← Go.Deep.add_add, this, hu]
    have hmax : cap ≤ 9223372036854775807 := hm
    refine ⟨List.ofFn (fun i : Fin len => Classical.choose (hch i i.2)), ⟨some a, cap, by simp, by simpa using hl, by simp, by simp; omega, fun _ => ⟨a, rfl, fun j p hj => ?_⟩⟩, by simp; omega, fun x hx => ?_⟩
    · obtain ⟨hjl, hp⟩ := List.getElem?_eq_some_iff.1 hj
      rw [List.getElem_ofFn] at hp
      subst hp
      obtain ⟨_, c, h1, h2, h3⟩ := Classical.choose_spec (hch j (by simpa using hjl))
      exact ⟨c, h1, h2, h3⟩
    · rw [List.mem_ofFn] at hx
      obtain ⟨i, rfl⟩ := hx
      exact (Classical.choose_spec (hch i i.2)).1
/-- A parameter that is a slice. -/
theorem param_slice {α : Type} {P : Program} {t e : TypeId} {d : Kd α} {G : List α → Prop} (ho : Opens P t (Kd.slice e d) G) {H : Type} {enc : TypeId × Value → H} {w : World} {a : Option Addr} {len cap : Nat} {D : DataW H} {p : List MemPlace}
    (h : DataW.Trod enc P w 0 (fun _ => true) true t (.slice a len cap) D p) : ∃ l, len = l.length ∧ len ≤ cap ∧ d.C w a len l ∧ G l := by
  obtain ⟨n, hf⟩ := h
  obtain ⟨l, ⟨A, c, e1, hl, hC⟩, hG⟩ := ho enc w n _ _ hf
  have e2 : [Value.slice a len cap] = [.slice A l.length c] := e1
  injection e2 with e3
  injection e3 with h1 h2 h3
  subst h1; subst h3
  exact ⟨l, h2, by omega, by rw [h2]; exact hC, hG⟩
end Go.Proofs.Ytenmljkddhonmaa.QTbl
