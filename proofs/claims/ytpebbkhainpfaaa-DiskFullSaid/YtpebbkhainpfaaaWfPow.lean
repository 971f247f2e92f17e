/- A number from 256 to 4096 has no bit in common with its predecessor just if it is one of five. Conditions: none. -/
import Derived.Test.YtpebbkhainpfaaaTy
namespace Go.Proofs.Ytpebbkhainpfaaa
set_option maxRecDepth 100000 in
theorem and_pow : ∀ n, n < 4097 → 256 ≤ n → (n &&& (n - 1) = 0 ↔ (n = 256 ∨ n = 512 ∨ n = 1024 ∨ n = 2048 ∨ n = 4096)) := by decide +kernel
end Go.Proofs.Ytpebbkhainpfaaa
