/- 'LoopsOfWeb' of a web: the number of its loops, or an error if it is no web. -/
import Derived.Test.YtibahnmljafkdaaCcIsWeb
import Derived.Test.YtibahnmljafkdaaCcPartsOfWeb
namespace Go.Proofs.Ytibahnmljafkdaa.P
open Go.RowKit Go.Maps Go.Proofs.YtibahnmljafkdaaW.PrintWords Go.Proofs.YtibahnmljafkdaaW.PrintLast Go.Proofs.YtibahnmljafkdaaW.PrintMore
set_option linter.unusedVariables false
set_option linter.unusedSimpArgs false
def loopsC (legs : List Int) (forks : List (List Int)) : Int := wrap64 (wrap64 (((webM legs forks).length : Int) - ((legs.length + forks.length : Nat) : Int)) + (kinds (partsC (legs.length + forks.length) (edgesM (webM legs forks))) : Int))
set_option maxRecDepth 100000 in
set_option maxHeartbeats 2000000 in
theorem loops_fn (g : Nat) (A0 : Option Addr) (c0 : Nat) (legs : List Int) (A1 : Option Addr) (c1 : Nat) (forks : List (List Int)) (w : World) (hw : w.heap[g]? = some (.cells #[.slice A0 legs.length c0, .slice A1 forks.length c1] 36 (0, 0)))
 (hr0 : Kd.C (Kd.int .i64) w A0 legs.length legs) (hc0 : legs.length ≤ c0) (hr1 : Kd.C (Kd.slice 2 (Kd.int .i64)) w A1 forks.length forks) (hc1 : forks.length ≤ c1) (hl0 : legs.length ≤ 1000) (hl1 : forks.length ≤ 1000) (hl2 : ∀ f ∈ forks, f.length ≤ 1000)
 (hv : ∀ p ∈ webM legs forks, p.2.length = 2) :
 Calls Try.prog 53 #[.pointer (some ⟨g, 0, none⟩)] w fun e w' => e = .returned (.int .i64 (loopsC legs forks)) ∧ Below w.heap.size w w' := by
 have hg : g < w.heap.size := (Array.getElem?_eq_some_iff.1 hw).1
 have HS := Aside0.mk (fun W (hb : Below w.heap.size w W) => stands_any g A0 c0 legs A1 c1 forks W ((hb.block g hg).trans hw) (Kd.C_below hr0 hb) hc0 (Kd.C_below hr1 hb) hc1 hl0 hl1 hl2)
 have HNO := Aside0.mk (fun W (hb : Below w.heap.size w W) => nodes_any g A0 c0 legs A1 c1 forks W ((hb.block g hg).trans hw) (by omega) (by omega))
 have HP := Aside0.mk (fun W (hb : Below w.heap.size w W) => parts_any g A0 c0 legs A1 c1 forks W ((hb.block g hg).trans hw) (Kd.C_below hr0 hb) hc0 (Kd.C_below hr1 hb) hc1 hl0 hl1 hl2 hv)
 have HLC := Aside0.mk (show loopsC legs forks = wrap64 (wrap64 (((webM legs forks).length : Int) - ((legs.length + forks.length : Nat) : Int)) + (kinds (partsC (legs.length + forks.length) (edgesM (webM legs forks))) : Int)) from rfl)
 change Aside0 (∀ W, Below w.heap.size w W → Calls Try.prog 43 #[.pointer (some ⟨g, 0, none⟩)] W fun e w' => ∃ b kv, e = .returned (.map (some b)) ∧ W.heap.size ≤ b ∧ mapKV w' (Value.int .i64) b kv ∧ Ends w' W.heap.size kv (webM legs forks) ∧ Below W.heap.size W w') at HS
 generalize kinds (partsC (legs.length + forks.length) (edgesM (webM legs forks))) = D at *
 generalize webM legs forks = M at *
 clear hr0 hr1 hw hl2 hv
 go_enter Try.func53, Try.ntmps53
 go_wp2_with (first
  | (go_at_call 43; refine (HS.out _ (Below.refl _ _)).mono ?_; rintro e w1 ⟨b, kv, rfl, hb1, hm1, he1, hbl1⟩; have HM1 := Aside0.mk hm1; have HKL := Aside0.mk (show kv.length = M.length from by have := congrArg List.length he1.keys; simpa using this); have HB1 := Aside0.mk hbl1; clear hm1 he1 hbl1)
  | (go_at_call 54; refine (HNO.out _ HB1.out).mono ?_; rintro e w' ⟨rfl, ⟨nd, rfl⟩⟩)
  | (go_at_call 52; refine (HP.out _ (pw_below_drewN HB1.out _)).mono ?_; rintro e w2 ⟨rfl, hb2⟩; have HB2 := Aside0.mk (below_step (pw_below_drewN HB1.out _) hb2); clear hb2)
  | (at_len; refine wpList_len_kv rfl _ 66 rfl 2 68 Try.underlying66 (Value.int .i64) b kv rfl HM1.out ?_))
 go_ret
 exact ⟨by rw [HLC.out, ← HKL.out, Int.natCast_add]; rfl, HB2.out⟩
set_option maxRecDepth 100000 in
set_option maxHeartbeats 2000000 in
theorem ofLoopsOfWeb_any (A0 : Option Addr) (c0 : Nat) (legs : List Int) (A1 : Option Addr) (c1 : Nat) (forks : List (List Int)) (w : World)
 (hr0 : Kd.C (Kd.int .i64) w A0 legs.length legs) (hc0 : legs.length ≤ c0) (hr1 : Kd.C (Kd.slice 2 (Kd.int .i64)) w A1 forks.length forks) (hc1 : forks.length ≤ c1) (hl0 : legs.length ≤ 1000000000000) (hl1 : forks.length ≤ 1000000000000) :
 Calls Try.prog 51 #[.agg #[.slice A0 legs.length c0, .slice A1 forks.length c1], .func (.func 53) #[] #[]] w fun e w' => e = .returned (.tuple #[.int .i64 (if isWebB legs forks then loopsC legs forks else 0), .int .i64 (if isWebB legs forks then 0 else 1)]) ∧ Below w.heap.size w w' := by
 have hu36 := Try.underlying36
 have HB0 := Aside0.mk (below_alloc (Below.refl w.heap.size w) (.cells #[.slice A0 legs.length c0, .slice A1 forks.length c1] 36))
 have HW0 := Aside0.mk (show (w.alloc (.cells #[.slice A0 legs.length c0, .slice A1 forks.length c1] 36)).heap[w.heap.size]? = some (.cells #[.slice A0 legs.length c0, .slice A1 forks.length c1] 36 (0, 0)) from (MapKept.heap_alloc w _).1)
 have HSZ := Aside0.mk (show (w.alloc (.cells #[.slice A0 legs.length c0, .slice A1 forks.length c1] 36)).heap.size = w.heap.size + 1 from by simp)
 have HIS := Aside0.mk (fun W (hb : Below w.heap.size w W) => isWeb_any A0 c0 legs A1 c1 forks W (Kd.C_below hr0 hb) hc0 (Kd.C_below hr1 hb) hc1 hl0 hl1)
 have HOF := Aside0.mk (fun (hi : isWebB legs forks = true) W (hb : Below w.heap.size w W) (hW : W.heap[w.heap.size]? = some (.cells #[.slice A0 legs.length c0, .slice A1 forks.length c1] 36 (0, 0))) => loops_fn w.heap.size A0 c0 legs A1 c1 forks W hW (Kd.C_below hr0 hb) hc0 (Kd.C_below hr1 hb) hc1 (by have := (isWeb_facts hi).1; omega) (by have := (isWeb_facts hi).1; omega) (fun f hf => by have := (isWeb_facts hi).2.1 f hf; omega) (isWeb_facts hi).2.2)
 clear hr0 hr1
 generalize isWebB legs forks = ib at *
 generalize hV : (loopsC legs forks : Int) = V at *
 clear hV
 cases ib with
 | false =>
  clear HOF
  go_enter Try.func51, Try.ntmps51
  go_wp2_with (first
   | (go_at_call 32; go_must (refine (HIS.out _ HB0.out).mono ?_); rintro e w1 ⟨rfl, hb1⟩; have HB1 := Aside0.mk (below_step HB0.out hb1); clear hb1))
  go_ret2
  exact ⟨by rfl, HB1.out⟩
 | true =>
  go_enter Try.func51, Try.ntmps51
  go_wp2_with (first
   | (go_at_call 32; go_must (refine (HIS.out _ HB0.out).mono ?_); rintro e w1 ⟨rfl, hb1⟩; have HB1 := Aside0.mk (below_step HB0.out hb1); have HW1 := Aside0.mk ((hb1.block w.heap.size (by show w.heap.size < (w.alloc _).heap.size; rw [HSZ.out]; omega)).trans HW0.out); clear hb1)
   | (go_at_call 53; go_must (refine (HOF.out (by trivial) _ HB1.out HW1.out).mono ?_); rintro e w2 ⟨rfl, hb2⟩; have HB2 := Aside0.mk (below_step HB1.out hb2); clear hb2))
  go_ret2
  exact ⟨by rfl, HB2.out⟩
def impl_LoopsOfWeb.f (l0_0 : List Int) (l0_1 : List (List Int)) : Option (Int × Int) := if l0_0.length ≤ 1000000000000 ∧ l0_1.length ≤ 1000000000000 then some (let legs := l0_0; let forks := l0_1; (if isWebB legs forks then loopsC legs forks else 0, if isWebB legs forks then 0 else 1)) else none
set_option maxRecDepth 100000 in
theorem impl_LoopsOfWeb.calls (A0_0 : Option Addr) (c0_0 : Nat) (l0_0 : List Int) (A0_1 : Option Addr) (c0_1 : Nat) (l0_1 : List (List Int)) (r1 : Int) (r2 : Int) (w : World) (hr0_0 : Kd.C (Kd.int .i64) w A0_0 l0_0.length l0_0) (hc0_0 : l0_0.length ≤ c0_0) (hr0_1 : Kd.C (Kd.slice 2 (Kd.int .i64)) w A0_1 l0_1.length l0_1) (hc0_1 : l0_1.length ≤ c0_1) (h : impl_LoopsOfWeb.f l0_0 l0_1 = some (r1, r2)) :
 Calls Try.prog 22 #[.agg #[.slice A0_0 l0_0.length c0_0, .slice A0_1 l0_1.length c0_1]] w fun e w' => e = .returned (.tuple #[.int .i64 r1, .int .i64 r2]) ∧ Below w.heap.size w w' := by
 unfold impl_LoopsOfWeb.f at h
 split at h
 · rename_i hl
   have h2 := Option.some.inj h
   simp only [Prod.mk.injEq] at h2
   have h3 := h2.1
   have h4 := h2.2
   clear h h2
   have hu36 := Try.underlying36
   have HOF := Aside0.mk (fun W (hb : Below w.heap.size w W) => ofLoopsOfWeb_any A0_0 c0_0 l0_0 A0_1 c0_1 l0_1 W (Kd.C_below hr0_0 hb) hc0_0 (Kd.C_below hr0_1 hb) hc0_1 hl.1 hl.2)
   simp only [h3, h4] at HOF
   have HB0 := Aside0.mk (below_alloc (Below.refl w.heap.size w) (.cells #[.slice A0_0 l0_0.length c0_0, .slice A0_1 l0_1.length c0_1] 36))
   clear hr0_0 hr0_1 h3 h4
   go_enter Try.func22, Try.ntmps22
   go_wp2_with (go_at_call 51; go_must (refine (HOF.out _ HB0.out).mono ?_); rintro e w1 ⟨rfl, hb1⟩; have HB1 := Aside0.mk (below_step HB0.out hb1); clear hb1)
   go_ret2
   exact ⟨by rfl, HB1.out⟩
 · cases h
end Go.Proofs.Ytibahnmljafkdaa.P
