/- 'PartsOfWeb' of a web: the number of its parts, or an error if it is no web. -/
import Derived.Test.YtibahnmljafkdaaCcIsWeb
import Derived.Test.YtibahnmljafkdaaCcParts
namespace Go.Proofs.Ytibahnmljafkdaa.P
open Go.RowKit Go.Maps Go.Proofs.YtibahnmljafkdaaW.PrintWords Go.Proofs.YtibahnmljafkdaaW.PrintLast Go.Proofs.YtibahnmljafkdaaW.PrintMore
set_option linter.unusedVariables false
set_option linter.unusedSimpArgs false
theorem isWeb_facts {legs : List Int} {forks : List (List Int)} (h : isWebB legs forks = true) : legs.length + forks.length ≤ 8 ∧ (∀ f ∈ forks, f.length = 3) ∧ ∀ p ∈ webM legs forks, p.2.length = 2 := by
 simp only [isWebB, Bool.and_eq_true, decide_eq_true_eq] at h
 refine ⟨h.1.1.1, fun f hf => ?_, fun p hp => ?_⟩
 · have h2 := h.1.1.2
   rw [Bool.not_eq_true', List.any_eq_false] at h2
   have := h2 f hf
   simp [not3] at this
   omega
 · have h2 := List.all_eq_true.1 h.1.2 p hp
   simp only [okEnd, Bool.and_eq_true, decide_eq_true_eq] at h2
   exact h2.2
end Go.Proofs.Ytibahnmljafkdaa.P
