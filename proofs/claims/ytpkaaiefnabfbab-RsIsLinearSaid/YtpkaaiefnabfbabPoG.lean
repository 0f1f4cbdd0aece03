/- The walks of the statements PolyMatchesSpec and PolyValuesMultiply. -/
import Derived.Test.YtpkaaiefnabfbabPoF
import Derived.Test.YtpkaaiefnabfbabRfB
namespace Go.Proofs.Ytpkaaiefnabfbab
open Go.RowKit
set_option linter.unusedVariables false

theorem IsRow.bytes2 {w : World} {a : Option Addr} {len cap : Nat} {zs : List Int} (h : IsRow .u8 w a len cap zs) : ∃ l : List GF, RdB w a len l ∧ len ≤ 9223372036854775807 ∧ len ≤ cap := by
  obtain ⟨l, h1, h2⟩ := h.bytes
  refine ⟨l, h1, h2, ?_⟩
  rcases h with ⟨_, h3, h4, _⟩ | ⟨_, _, h3, _⟩ <;> omega
theorem lC_ne {n m : Nat} (h : ¬ (n ≤ 512 ∧ m ≤ 512)) : (lC n m != 0) = true := by rw [lC_bad h]; rfl
end Go.Proofs.Ytpkaaiefnabfbab
