/- It is proved that the law NumbersAll of package incipitlaw8 returns true at every input: any number, and any text, goes to bytes as the reference says, and back. No conditions. -/
import Derived.Test.YthpeieieibbbgaaMNumx3
import Derived.Test.YthpeieieibbbgaaQNumFixRef
import Derived.Test.YthpeieieibbbgaaQNumGetPut
import Derived.Test.YthpeieieibbbgaaQNumNumBegun
namespace Go.Proofs.Ythpeieieibbbgaa.Pure
open Go.RowKit Go.Proofs.Ythpeieieibbbgaa.MNum Go.Proofs.Ythpeieieibbbgaa.QNum Go.Proofs.YthpeieieibbbgaaW.PrintWords Go.Proofs.YthpeieieibbbgaaW.PrintLast Go.Proofs.YthpeieieibbbgaaW.PrintMore
set_option linter.unusedVariables false
set_option linter.unusedSimpArgs false
theorem NumbersAll : incipitlaw8_NumbersAll.Pure := by
  intro n s hn hs
  refine Ev.rounds (g := fun k => incipitlaw8_NumbersAll.f k n s) ?_
  have hn' : 0 ≤ n ∧ n < 18446744073709551616 := by
    simp only [Lit.wf, IntKind.min, IntKind.max, IntKind.signed, IntKind.bits] at hn
    simp at hn
    omega
  obtain ⟨n, rfl⟩ := Int.eq_ofNat_of_zero_le hn'.1
  have h : n < 18446744073709551616 := by omega
  unfold incipitlaw8_NumbersAll.f
  refine Ev.bind begun_ev (Ev.ite_pos rfl ?_)
  obtain ⟨t, ht, ht1, ht2⟩ := Cut_some s 200
  have e200 : ((200 : Nat) : Int) = 200 := rfl
  rw [e200] at ht
  rw [ht]
  simp only [Option.bind_some]
  have hg := get_put h []
  rw [List.append_nil] at hg
  have em : (n : Int) % 4294967296 = ((n % 4294967296 : Nat) : Int) := by omega
  refine Ev.bind (Put_ev h) (Ev.bind (Get_ev (put_bytes h)) (Ev.bind (rPut_ev h) (Ev.ite_pos rfl ?_)))
  rw [hg]
  refine Ev.ite_pos rfl (Ev.ite_pos rfl ?_)
  rw [em]
  refine Ev.bind (Put32_ev (n := n % 4294967296) (by omega)) (Ev.bind (rFixed_ev n 4 (by omega)) ?_)
  have e4 : fix (n % 4294967296) 4 = fix n 4 := by
    simp only [fix]
    rw [show n % 4294967296 % 256 = n % 256 by omega, show n % 4294967296 / 256 % 256 = n / 256 % 256 by omega, show n % 4294967296 / 256 / 256 % 256 = n / 256 / 256 % 256 by omega, show n % 4294967296 / 256 / 256 / 256 % 256 = n / 256 / 256 / 256 % 256 by omega]
  rw [e4]
  refine Ev.ite_pos rfl (Ev.bind (Put64_ev n) (Ev.bind (rFixed_ev n 8 (by omega)) (Ev.ite_pos rfl (Ev.bind (Put64_ev n) ?_))))
  refine Ev.bind (Get64_ev (fix_bytes 8 n) (by rw [fix_length]; omega)) ?_
  rw [List.take_of_length_le (by rw [fix_length]; omega), val256_fix, show n % 256 ^ 8 = n by rw [show (256 : Nat) ^ 8 = 18446744073709551616 by decide]; omega]
  refine Ev.ite_pos rfl (Ev.bind (Put32_ev (n := n % 4294967296) (by omega)) ?_)
  refine Ev.bind (Get32_ev (fix_bytes 4 _) (by rw [fix_length]; omega)) ?_
  rw [List.take_of_length_le (by rw [fix_length]; omega), val256_fix, show n % 4294967296 % 256 ^ 4 = n % 4294967296 by rw [show (256 : Nat) ^ 4 = 4294967296 by decide]; omega]
  refine Ev.ite_pos rfl (Ev.bind (Text_ev (by omega)) (Ev.bind (rText_ev (by omega)) ?_))
  rw [beq_self_eq_true]
  exact Ev.now _
end Go.Proofs.Ythpeieieibbbgaa.Pure
