/- 'PartsOfWeb' of a web: the number of its parts, or an error if it is no web. -/
import Derived.Test.YtibahnmljafkdaaCbIsWeb
import Derived.Test.YtibahnmljafkdaaCbParts
namespace Go.Proofs.Ytibahnmljafkdaa.P
open Go.RowKit Go.Maps Go.Proofs.YtibahnmljafkdaaW.PrintWords Go.Proofs.YtibahnmljafkdaaW.PrintLast Go.Proofs.YtibahnmljafkdaaW.PrintMore
set_option linter.unusedVariables false
set_option linter.unusedSimpArgs false
theorem isWeb_facts {legs : List Int} {forks : List (List Int)} (h : isWebB legs forks = true) : legs.length + forks.length ≤ 8 ∧ (∀ f ∈ forks, f.length = 3) ∧ ∀ p ∈ webM legs forks, p.2.length = 2 := by
 simp only [isWebB, Bool.and_eq_true, decide_eq_true_eq] at h
 refine ⟨h.1.1.1, fun f hf => ?_, fun p hp => ?_⟩
 · have h2 := h.1.1.2
   rw [Bool.not_eq_true', List.any_eq_false] at h2
   have := h2 f hf
   simp [not3] at this
   omega
 · have h2 := List.all_eq_true.1 h.1.2 p hp
   simp only [okEnd, Bool.and_eq_true, decide_eq_true_eq] at h2
   exact h2.2
set_option maxRecDepth 100000 in
set_option maxHeartbeats 2000000 in
theorem ofPartsOfWeb_any (A0 : Option Addr) (c0 : Nat) (legs : List Int) (A1 : Option Addr) (c1 : Nat) (forks : List (List Int)) (w : World)
 (hr0 : Kd.C (Kd.int .i64) w A0 legs.length legs) (hc0 : legs.length ≤ c0) (hr1 : Kd.C (Kd.slice 2 (Kd.int .i64)) w A1 forks.length forks) (hc1 : forks.length ≤ c1) (hl0 : legs.length ≤ 1000000000000) (hl1 : forks.length ≤ 1000000000000) :
 Calls Try.prog 51 #[.agg #[.slice A0 legs.length c0, .slice A1 forks.length c1], .func (.func 52) #[] #[]] w fun e w' => e = .returned (.tuple #[.int .i64 (if isWebB legs forks then (kinds (partsC (legs.length + forks.length) (edgesM (webM legs forks))) : Int) else 0), .int .i64 (if isWebB legs forks then 0 else 1)]) ∧ Below w.heap.size w w' := by
 have hu36 := Try.underlying36
 have HB0 := Aside0.mk (below_alloc (Below.refl w.heap.size w) (.cells #[.slice A0 legs.length c0, .slice A1 forks.length c1] 36))
 have HW0 := Aside0.mk (show (w.alloc (.cells #[.slice A0 legs.length c0, .slice A1 forks.length c1] 36)).heap[w.heap.size]? = some (.cells #[.slice A0 legs.length c0, .slice A1 forks.length c1] 36 (0, 0)) from (MapKept.heap_alloc w _).1)
 have HSZ := Aside0.mk (show (w.alloc (.cells #[.slice A0 legs.length c0, .slice A1 forks.length c1] 36)).heap.size = w.heap.size + 1 from by simp)
 have HIS := Aside0.mk (fun W (hb : Below w.heap.size w W) => isWeb_any A0 c0 legs A1 c1 forks W (Kd.C_below hr0 hb) hc0 (Kd.C_below hr1 hb) hc1 hl0 hl1)
 have HOF := Aside0.mk (fun (hi : isWebB legs forks = true) W (hb : Below w.heap.size w W) (hW : W.heap[w.heap.size]? = some (.cells #[.slice A0 legs.length c0, .slice A1 forks.length c1] 36 (0, 0))) => parts_any w.heap.size A0 c0 legs A1 c1 forks W hW (Kd.C_below hr0 hb) hc0 (Kd.C_below hr1 hb) hc1 (by have := (isWeb_facts hi).1; omega) (by have := (isWeb_facts hi).1; omega) (fun f hf => by have := (isWeb_facts hi).2.1 f hf; omega) (isWeb_facts hi).2.2)
 clear hr0 hr1
 generalize isWebB legs forks = ib at *
 generalize hV : ((kinds (partsC (legs.length + forks.length) (edgesM (webM legs forks))) : Int) : Int) = V at *
 clear hV
 cases ib with
 | false =>
  clear HOF
  go_enter Try.func51, Try.ntmps51
  go_wp2_with (first
   | (go_at_call 32; go_must (refine (HIS.out _ HB0.out).mono ?_); rintro e w1 ⟨rfl, hb1⟩; have HB1 := Aside0.mk (below_step HB0.out hb1); clear hb1))
  go_ret2
  exact ⟨by rfl, HB1.out⟩
 | true =>
  go_enter Try.func51, Try.ntmps51
  go_wp2_with (first
   | (go_at_call 32; go_must (refine (HIS.out _ HB0.out).mono ?_); rintro e w1 ⟨rfl, hb1⟩; have HB1 := Aside0.mk (below_step HB0.out hb1); have HW1 := Aside0.mk ((hb1.block w.heap.size (by show w.heap.size < (w.alloc _).heap.size; rw [HSZ.out]; omega)).trans HW0.out); clear hb1)
   | (go_at_call 52; go_must (refine (HOF.out (by trivial) _ HB1.out HW1.out).mono ?_); rintro e w2 ⟨rfl, hb2⟩; have HB2 := Aside0.mk (below_step HB1.out hb2); clear hb2))
  go_ret2
  exact ⟨by rfl, HB2.out⟩
def impl_PartsOfWeb.f (l0_0 : List Int) (l0_1 : List (List Int)) : Option (Int × Int) := if l0_0.length ≤ 1000000000000 ∧ l0_1.length ≤ 1000000000000 then some (let legs := l0_0; let forks := l0_1; (if isWebB legs forks then (kinds (partsC (legs.length + forks.length) (edgesM (webM legs forks))) : Int) else 0, if isWebB legs forks then 0 else 1)) else none
set_option maxRecDepth 100000 in
theorem impl_PartsOfWeb.calls (A0_0 : Option Addr) (c0_0 : Nat) (l0_0 : List Int) (A0_1 : Option Addr) (c0_1 : Nat) (l0_1 : List (List Int)) (r1 : Int) (r2 : Int) (w : World) (hr0_0 : Kd.C (Kd.int .i64) w A0_0 l0_0.length l0_0) (hc0_0 : l0_0.length ≤ c0_0) (hr0_1 : Kd.C (Kd.slice 2 (Kd.int .i64)) w A0_1 l0_1.length l0_1) (hc0_1 : l0_1.length ≤ c0_1) (h : impl_PartsOfWeb.f l0_0 l0_1 = some (r1, r2)) :
 Calls Try.prog 20 #[.agg #[.slice A0_0 l0_0.length c0_0, .slice A0_1 l0_1.length c0_1]] w fun e w' => e = .returned (.tuple #[.int .i64 r1, .int .i64 r2]) ∧ Below w.heap.size w w' := by
 unfold impl_PartsOfWeb.f at h
 split at h
 · rename_i hl
   have h2 := Option.some.inj h
   simp only [Prod.mk.injEq] at h2
   have h3 := h2.1
   have h4 := h2.2
   clear h h2
   have hu36 := Try.underlying36
   have HOF := Aside0.mk (fun W (hb : Below w.heap.size w W) => ofPartsOfWeb_any A0_0 c0_0 l0_0 A0_1 c0_1 l0_1 W (Kd.C_below hr0_0 hb) hc0_0 (Kd.C_below hr0_1 hb) hc0_1 hl.1 hl.2)
   simp only [h3, h4] at HOF
   have HB0 := Aside0.mk (below_alloc (Below.refl w.heap.size w) (.cells #[.slice A0_0 l0_0.length c0_0, .slice A0_1 l0_1.length c0_1] 36))
   clear hr0_0 hr0_1 h3 h4
   go_enter Try.func20, Try.ntmps20
   go_wp2_with (go_at_call 51; go_must (refine (HOF.out _ HB0.out).mono ?_); rintro e w1 ⟨rfl, hb1⟩; have HB1 := Aside0.mk (below_step HB0.out hb1); clear hb1)
   go_ret2
   exact ⟨by rfl, HB1.out⟩
 · cases h
end Go.Proofs.Ytibahnmljafkdaa.P
