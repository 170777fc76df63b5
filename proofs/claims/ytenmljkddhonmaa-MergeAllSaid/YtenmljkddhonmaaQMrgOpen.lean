/- Arguments that are read as data, opened as values of a kind: whole numbers, texts, slices of what can be opened. -/
import Derived.Deep.Slices
import Derived.Deep.Fields
import Derived.ChangeArms
import Derived.ChangeSame
import Derived.WalkKit
import Derived.ProofKit
import Derived.OpenShut
import Derived.Test.YtenmljkddhonmaaMMrgx0
namespace Go.Proofs.Ytenmljkddhonmaa.QMrg
open Go.RowKit Go.Proofs.Ytenmljkddhonmaa.MMrg Go.Proofs.YtenmljkddhonmaaW.PrintWords Go.Proofs.YtenmljkddhonmaaW.PrintLast Go.Proofs.YtenmljkddhonmaaW.PrintMore
set_option linter.unusedVariables false
set_option linter.unusedSimpArgs false
open Go.ChangeShapes Go.WideShapes Go.Deep
/-- What reads as data of a type is of a kind, and of a kind of values. -/
def Opens {α : Type} (P : Program) (t : TypeId) (d : Kd α) (G : α → Prop) : Prop :=
  ∀ {H : Type} (enc : TypeId × Value → H) (w : World) (n : Nat) (cs : List Value) (y : DataW H × List MemPlace), DataW.trod enc P w 0 (fun _ => true) true n t cs = some y → ∃ x, d.K w x cs ∧ G x
theorem Opens.int {P : Program} {t : TypeId} {k : IntKind} (ht : P.underlying t = some (.int k)) : Opens P t (Kd.int k) (fun x => (Lit.int k x).wf = true) := by
  intro H enc w n cs y h
  obtain ⟨x, rfl, _, hw⟩ := DataW.trod_int ht h
  exact ⟨x, rfl, hw⟩
theorem Opens.bool {P : Program} {t : TypeId} (ht : P.underlying t = some .bool) : Opens P t Kd.bool (fun _ => True) := by
  intro H enc w n cs y h
  obtain ⟨x, rfl, _⟩ := DataW.trod_bool ht h
  exact ⟨x, rfl, trivial⟩
theorem Opens.str {P : Program} {t : TypeId} (ht : P.underlying t = some .string) : Opens P t Kd.string (fun s => s.size ≤ maxLen) := by
  intro H enc w n cs y h
  obtain ⟨x, rfl, _, hw⟩ := DataW.trod_string ht h
  exact ⟨x, rfl, hw⟩
theorem Opens.slice {α : Type} {P : Program} {t e : TypeId} {d : Kd α} {G : α → Prop} (ht : P.underlying t = some (.slice e)) (hc : P.cellsOf e = d.sz) (he : Opens P e d G) :
    Opens P t (Kd.slice e d) (fun xs => xs.length ≤ maxLen ∧ ∀ x ∈ xs, G x) := by
  intro H enc w n cs y h
  rcases open_slice ht h with ⟨rfl, _⟩ | ⟨a, len, cap, m, n', D, Pl, rfl, _, hl, hm, hmm, _, hi⟩
  · exact ⟨[], ⟨none, 0, rfl, Nat.le_refl _, ⟨rfl, by simp, fun h => absurd h (Nat.lt_irrefl 0)⟩⟩, Nat.zero_le _, fun x hx => by cases hx⟩
  · have hmc : m = cap := by simpa using hmm
    have hch : ∀ i, i < len → ∃ x : α, G x ∧ ∃ c, c.length = d.sz ∧ d.K w x c ∧ ∀ j u, c[j]? = some u → w.cell? (a.add (i * d.sz + j)) = some u := by
      intro i hil
      obtain ⟨cs', hcs, htr⟩ := hi i (by omega)
      obtain ⟨x, hK, hG⟩ := he enc w n' cs' _ htr
      refine ⟨x, hG, cs', d.K_len hK, hK, fun j u hu => ?_⟩
      obtain ⟨_, hcl, hat⟩ := World.cells?_some hcs
      have hj := (List.getElem?_eq_some_iff.1 hu).1
      have := hat j (by have := d.K_len hK; omega)
      rw [← hc, ← Go.Deep.add_add, this, hu]
    have hmax : cap ≤ 9223372036854775807 := hm
    refine ⟨List.ofFn (fun i : Fin len => Classical.choose (hch i i.2)), ⟨some a, cap, by simp, by simpa using hl, by simp, by simp; omega, fun _ => ⟨a, rfl, fun j p hj => ?_⟩⟩, by simp; omega, fun x hx => ?_⟩
    · obtain ⟨hjl, hp⟩ := List.getElem?_eq_some_iff.1 hj
      rw [List.getElem_ofFn] at hp
      subst hp
      obtain ⟨_, c, h1, h2, h3⟩ := Classical.choose_spec (hch j (by simpa using hjl))
      exact ⟨c, h1, h2, h3⟩
    · rw [List.mem_ofFn] at hx
      obtain ⟨i, rfl⟩ := hx
      exact (Classical.choose_spec (hch i i.2)).1
/-- A parameter that is a slice. -/
theorem param_slice {α : Type} {P : Program} {t e : TypeId} {d : Kd α} {G : List α → Prop} (ho : Opens P t (Kd.slice e d) G) {H : Type} {enc : TypeId × Value → H} {w : World} {a : Option Addr} {len cap : Nat} {D : DataW H} {p : List MemPlace}
    (h : DataW.Trod enc P w 0 (fun _ => true) true t (.slice a len cap) D p) : ∃ l, len = l.length ∧ len ≤ cap ∧ d.C w a len l ∧ G l := by
  obtain ⟨n, hf⟩ := h
  obtain ⟨l, ⟨A, c, e1, hl, hC⟩, hG⟩ := ho enc w n _ _ hf
  have e2 : [Value.slice a len cap] = [.slice A l.length c] := e1
  injection e2 with e3
  injection e3 with h1 h2 h3
  subst h1; subst h3
  exact ⟨l, h2, by omega, by rw [h2]; exact hC, hG⟩
/-- A parameter that is a struct. -/
theorem param_struct {α : Type} {P : Program} {t : TypeId} {fs : Array Field} {d : Kd α} {G : α → Prop} (ho : Opens P t d G) (hs : P.underlying t = some (.struct fs)) {H : Type} {enc : TypeId × Value → H} {w : World} {r : Reach} {b0 : Nat} {v : Value} {D : DataW H} {p : List MemPlace}
    (hv : Value.okWide P w r b0 t v) (h : DataW.Trod enc P w 0 (fun _ => true) true t v D p) : ∃ x cs, v = .agg cs.toArray ∧ d.K w x cs ∧ G x := by
  obtain ⟨cs, rfl, _⟩ := okWide_struct hs hv
  obtain ⟨n, hf⟩ := h
  obtain ⟨x, hK, hG⟩ := ho enc w n _ _ hf
  exact ⟨x, cs.toList, by simp, hK, hG⟩
end Go.Proofs.Ytenmljkddhonmaa.QMrg
