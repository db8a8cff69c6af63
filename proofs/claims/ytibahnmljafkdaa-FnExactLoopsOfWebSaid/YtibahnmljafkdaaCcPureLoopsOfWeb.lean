/- The law of 'LoopsOfWeb', in plain mathematics. -/
import Derived.Test.YtibahnmljafkdaaCcPureLaws
import Derived.Test.YtibahnmljafkdaaCcPureCount
import Derived.Test.YtibahnmljafkdaaCcLoopsOfWeb
import Derived.Test.YtibahnmljafkdaaCcPx6
import Derived.Test.YtibahnmljafkdaaCcPx7
namespace Go.Proofs.Ytibahnmljafkdaa.P
open Go.RowKit Go.Proofs.YtibahnmljafkdaaW.PrintWords Go.Proofs.YtibahnmljafkdaaW.PrintLast
set_option linter.unusedVariables false
set_option linter.unusedSimpArgs false
theorem endsOf_two : ∀ (l : List (Int × Int)) (m : List (Int × List Int)), ((endsOf l m).map fun p => p.2.length).sum = (m.map fun p => p.2.length).sum + l.length
 | [], m => by simp [endsOf]
 | q :: l, m => by
  have e1 : endsOf (q :: l) m = endsOf l (endsStep m q) := rfl
  rw [e1, endsOf_two l (endsStep m q), List.length_cons]
  have h : ((endsStep m q).map fun p => p.2.length).sum = (m.map fun p => p.2.length).sum + 1 := by
   unfold endsStep
   clear e1
   induction m with
   | nil => simp [kvPut, kvGet_nil]
   | cons p m ih =>
    obtain ⟨y, u⟩ := p
    by_cases hy : y = q.1
    · simp only [kvPut, kvGet_cons, hy, if_true, Option.getD_some, List.map_cons, List.sum_cons, List.length_append, List.length_cons, List.length_nil]; omega
    · simp only [kvPut, kvGet_cons, hy, if_false, List.map_cons, List.sum_cons]
      rw [ih]; omega
  omega
theorem sum_two : ∀ (m : List (Int × List Int)), (∀ p ∈ m, p.2.length = 2) → (m.map fun p => p.2.length).sum = 2 * m.length
 | [], _ => rfl
 | p :: m, h => by
  rw [List.map_cons, List.sum_cons, sum_two m (fun q hq => h q (List.mem_cons_of_mem _ hq)), h p List.mem_cons_self, List.length_cons]; omega
theorem flatten_three : ∀ (l : List (List Int)), (∀ f ∈ l, f.length = 3) → l.flatten.length = 3 * l.length
 | [], _ => rfl
 | f :: l, h => by
  rw [List.flatten_cons, List.length_append, flatten_three l (fun q hq => h q (List.mem_cons_of_mem _ hq)), h f List.mem_cons_self, List.length_cons]; omega
theorem webM_len (legs : List Int) (forks : List (List Int)) (hf : ∀ f ∈ forks, f.length = 3) (hv : ∀ p ∈ webM legs forks, p.2.length = 2) : 2 * (webM legs forks).length = legs.length + 3 * forks.length := by
 have h1 := endsOf_two (endsL legs forks) []
 have h2 := sum_two _ hv
 have h3 : (endsL legs forks).length = (allE legs forks).length := by rw [← endsL_fst, List.length_map]
 have h4 : (allE legs forks).length = legs.length + 3 * forks.length := by unfold allE; rw [List.length_append, flatten_three forks hf]
 unfold webM at h2 ⊢
 simp at h1
 omega
theorem fnExactLoopsOfWeb_true (legs : List Int) (forks : List (List Int)) (hg : legs.length ≤ 9223372036854775807) (hfs : forks.length ≤ 9223372036854775807) (hf : ∀ f ∈ forks, f.length ≤ 9223372036854775807) :
 Ev (fun k => laws_FnExactLoopsOfWeb.f k legs forks) true := by
 obtain ⟨s, hs, hb⟩ := szWeb legs forks 1048576 (by omega) (by omega) hg hfs hf
 unfold laws_FnExactLoopsOfWeb.f
 refine Ev.bind hs ?_
 rcases hb with hb | ⟨hb, _, b0, b1, b2⟩
 · simp only [if_pos hb]; exact Ev.now _
 simp only [if_neg (show ¬ s < 0 by omega)]
 have b2' : ∀ f ∈ forks, f.length ≤ 1000000000000 := fun f h => by have := b2 f h; omega
 have hto := ev_toWeb legs forks (by omega) (by omega) b2'
 refine Ev.bind hto ?_
 have hj : Ev (fun k => laws_FnExactLoopsOfWeb.j0 k false legs forks legs forks) true := by
  refine Ev.step (fun k => by rw [laws_FnExactLoopsOfWeb.j0]) ?_
  simp only [Bool.false_eq_true, if_false]
  refine Ev.bind hto ?_
  refine Ev.bind (ev_eqWeb legs forks (by omega) (by omega) b2') ?_
  simp only [if_true]
  exact Ev.now _
 have himpl : impl_LoopsOfWeb.f legs forks = some (if isWebB legs forks then loopsC legs forks else 0, if isWebB legs forks then 0 else 1) := by
  unfold impl_LoopsOfWeb.f
  rw [if_pos ⟨by omega, by omega⟩]
 have hspec : Ev (fun k => spec_LoopsOfWeb.f k legs forks) (if isWebB legs forks then loopsC legs forks else 0, if isWebB legs forks then 0 else 1) := by
  unfold spec_LoopsOfWeb.f
  refine Ev.bind (ev_webIs legs forks (by omega) (by omega)) ?_
  cases hi : isWebB legs forks with
  | false => simp only [Bool.false_eq_true, if_false]; exact Ev.now _
  | true =>
   simp only [if_true]
   have h1 := isWeb_facts hi
   have hk := kinds_partsC legs forks h1.2.2
   refine Ev.bind (ev_count legs forks (by omega) (fun f h => by have := h1.2.1 f h; omega) h1.2.2) ?_
   have hw := webM_len legs forks h1.2.1 h1.2.2
   have hn := h1.1
   have ho := ownN_le (partsC (legs.length + forks.length) (edgesM (webM legs forks))) (legs.length + forks.length)
   refine ev_val ?_
   rw [Prod.mk.injEq]
   refine ⟨?_, rfl⟩
   unfold loopsC
   rw [hk]
   generalize ownN (partsC (legs.length + forks.length) (edgesM (webM legs forks))) (legs.length + forks.length) = D at *
   generalize (webM legs forks).length = M at *
   have e1 : wrap64 (3 * (forks.length : Int)) = 3 * (forks.length : Int) := by unfold wrap64; omega
   have e2 : wrap64 ((legs.length : Int) + 3 * (forks.length : Int)) = 2 * (M : Int) := by unfold wrap64; omega
   have e3 : Int.tdiv (2 * (M : Int)) 2 = (M : Int) := by rw [Int.mul_comm]; exact Int.mul_tdiv_cancel _ (by decide)
   have e4 : wrap64 (M : Int) = (M : Int) := by unfold wrap64; omega
   have e5 : wrap64 ((legs.length : Int) + (forks.length : Int)) = ((legs.length + forks.length : Nat) : Int) := by unfold wrap64; omega
   rw [e1, e2, e3, e4, e5]
 refine Ev.bind hspec ?_
 refine Ev.bind hto ?_
 simp only [himpl, Option.bind_some, if_true, bne_self_eq_false]
 exact hj
end Go.Proofs.Ytibahnmljafkdaa.P
