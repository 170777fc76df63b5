/- A binary search finds the first place at which a rising test is true. -/
import Derived.Test.YtcijcfdllfaghaaMEntx2
import Derived.Test.YtcijcfdllfaghaaQEntBasic
namespace Go.Proofs.Ytcijcfdllfaghaa.QEnt
open Go.RowKit Go.Proofs.Ytcijcfdllfaghaa.MEnt Go.Proofs.Ytcijcfdllfaghaa.QEnt Go.Proofs.YtcijcfdllfaghaaW.PrintWords Go.Proofs.YtcijcfdllfaghaaW.PrintLast Go.Proofs.YtcijcfdllfaghaaW.PrintMore
set_option linter.unusedVariables false
set_option linter.unusedSimpArgs false
theorem bsearch_eq (p : Nat → Bool) (c : Nat) : ∀ k lo hi, hi - lo ≤ k → lo ≤ c → c ≤ hi → (∀ i, lo ≤ i → i < hi → (p i = true ↔ c ≤ i)) → bsearch p k lo hi = c
  | 0, lo, hi, h, h1, h2, _ => by unfold bsearch; omega
  | k + 1, lo, hi, h, h1, h2, hp => by
    unfold bsearch
    by_cases hl : lo < hi
    · rw [if_pos hl]
      have hm := hp ((lo + hi) / 2) (by omega) (by omega)
      by_cases c1 : p ((lo + hi) / 2) = true
      · rw [if_pos c1]
        exact bsearch_eq p c k lo _ (by omega) h1 (hm.1 c1) (fun i a b => hp i a (by omega))
      · rw [if_neg c1]
        have : ¬ c ≤ (lo + hi) / 2 := fun z => c1 (hm.2 z)
        exact bsearch_eq p c k _ hi (by omega) (by omega) h2 (fun i a b => hp i (by omega) b)
    · rw [if_neg hl]; omega
end Go.Proofs.Ytcijcfdllfaghaa.QEnt
