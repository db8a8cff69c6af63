/- The law of 'PartsOfWeb', in plain mathematics. -/
import Derived.Test.YtibahnmljafkdaaCbPureLaws
import Derived.Test.YtibahnmljafkdaaCbPureCount
import Derived.Test.YtibahnmljafkdaaCbPx4
import Derived.Test.YtibahnmljafkdaaCbPx5
namespace Go.Proofs.Ytibahnmljafkdaa.P
open Go.RowKit Go.Proofs.YtibahnmljafkdaaW.PrintWords Go.Proofs.YtibahnmljafkdaaW.PrintLast
set_option linter.unusedVariables false
set_option linter.unusedSimpArgs false
theorem fnExactPartsOfWeb_true (legs : List Int) (forks : List (List Int)) (hg : legs.length ≤ 9223372036854775807) (hfs : forks.length ≤ 9223372036854775807) (hf : ∀ f ∈ forks, f.length ≤ 9223372036854775807) :
 Ev (fun k => laws_FnExactPartsOfWeb.f k legs forks) true := by
 obtain ⟨s, hs, hb⟩ := szWeb legs forks 1048576 (by omega) (by omega) hg hfs hf
 unfold laws_FnExactPartsOfWeb.f
 refine Ev.bind hs ?_
 rcases hb with hb | ⟨hb, _, b0, b1, b2⟩
 · simp only [if_pos hb]; exact Ev.now _
 simp only [if_neg (show ¬ s < 0 by omega)]
 have b2' : ∀ f ∈ forks, f.length ≤ 1000000000000 := fun f h => by have := b2 f h; omega
 have hto := ev_toWeb legs forks (by omega) (by omega) b2'
 refine Ev.bind hto ?_
 have hj : Ev (fun k => laws_FnExactPartsOfWeb.j0 k false legs forks legs forks) true := by
  refine Ev.step (fun k => by rw [laws_FnExactPartsOfWeb.j0]) ?_
  simp only [Bool.false_eq_true, if_false]
  refine Ev.bind hto ?_
  refine Ev.bind (ev_eqWeb legs forks (by omega) (by omega) b2') ?_
  simp only [if_true]
  exact Ev.now _
 have himpl : impl_PartsOfWeb.f legs forks = some (if isWebB legs forks then (kinds (partsC (legs.length + forks.length) (edgesM (webM legs forks))) : Int) else 0, if isWebB legs forks then 0 else 1) := by
  unfold impl_PartsOfWeb.f
  rw [if_pos ⟨by omega, by omega⟩]
 have hspec : Ev (fun k => spec_PartsOfWeb.f k legs forks) (if isWebB legs forks then (kinds (partsC (legs.length + forks.length) (edgesM (webM legs forks))) : Int) else 0, if isWebB legs forks then 0 else 1) := by
  unfold spec_PartsOfWeb.f
  refine Ev.bind (ev_webIs legs forks (by omega) (by omega)) ?_
  cases hi : isWebB legs forks with
  | false => simp only [Bool.false_eq_true, if_false]; exact Ev.now _
  | true =>
   simp only [if_true]
   have h1 := isWeb_facts hi
   have hk := kinds_partsC legs forks h1.2.2
   refine Ev.bind (ev_count legs forks (by omega) (fun f h => by have := h1.2.1 f h; omega) h1.2.2) ?_
   rw [hk]
   exact Ev.now _
 refine Ev.bind hspec ?_
 refine Ev.bind hto ?_
 simp only [himpl, Option.bind_some, if_true, bne_self_eq_false]
 exact hj
end Go.Proofs.Ytibahnmljafkdaa.P
