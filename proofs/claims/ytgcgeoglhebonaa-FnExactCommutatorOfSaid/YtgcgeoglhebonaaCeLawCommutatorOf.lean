/- Part of the claim. -/
import Derived.Test.YtgcgeoglhebonaaCeM7
import Derived.Test.YtgcgeoglhebonaaRows
import Derived.WalkKit
import Derived.ProofKit
import Derived.OpenShut
import Derived.ShutString
import Derived.ChangeOld
import Derived.Below
import Derived.SizedLaws
set_option maxRecDepth 100000
set_option maxHeartbeats 8000000
section
namespace Go.Proofs.Ytgcgeoglhebonaa.fnExactCommutatorOf
open Go.ChangeShapes Go.WideShapes Go.ChangeAt Go.RowKit Go.Proofs.YtgcgeoglhebonaaW.PrintWords
open Go.ChangeMaps (open_string shut_string)
set_option linter.unusedVariables false
theorem own : ownKnob Try.prog.godebug = none := by kernel_rfl
theorem laidOut : laidOutB Try.prog = true := by kernel_rfl
section
variable {H : Type} {enc : TypeId × Value → H} {w : World} {base : Nat} {spare : Nat → Bool} {held : Bool}
theorem o_ints : P.Opens enc Try.prog w base spare held 50 (Kd.slice 2 (Kd.int .i64)) (fun l => l.length ≤ 9223372036854775807 ∧ ∀ x ∈ l, (Lit.int .i64 x).wf = true) :=
 P.opens_slice Try.underlying50 (by kernel_rfl) (P.opens_int Try.underlying2)
theorem o_term : P.Opens enc Try.prog w base spare held 64 P.k64 (fun t => (t.f0.length ≤ 9223372036854775807 ∧ ∀ x ∈ t.f0, (Lit.int .i64 x).wf = true) ∧ (Lit.int .i64 t.f1).wf = true) :=
 P.opens_iso (fun x : P.S64 => (x.f0, x.f1)) (fun x => ⟨x.1, x.2⟩) (fun _ => rfl) (P.opens_struct2 Try.underlying64 (by kernel_rfl) rfl (by kernel_rfl) o_ints (P.opens_int Try.underlying2))
theorem o_terms : P.Opens enc Try.prog w base spare held 22 (Kd.slice 64 P.k64) (fun l => l.length ≤ 9223372036854775807 ∧ ∀ t ∈ l, (t.f0.length ≤ 9223372036854775807 ∧ ∀ x ∈ t.f0, (Lit.int .i64 x).wf = true) ∧ (Lit.int .i64 t.f1).wf = true) :=
 P.opens_slice Try.underlying22 (by kernel_rfl) o_term
theorem o_sum : P.Opens enc Try.prog w base spare held 24 (Kd.pair (Kd.int .i64) (Kd.slice 64 P.k64)) (fun (x : Int × List P.S64) => (Lit.int .i64 x.1).wf = true ∧ x.2.length ≤ 9223372036854775807 ∧ ∀ t ∈ x.2, (t.f0.length ≤ 9223372036854775807 ∧ ∀ y ∈ t.f0, (Lit.int .i64 y).wf = true) ∧ (Lit.int .i64 t.f1).wf = true) :=
 P.opens_struct2 Try.underlying24 (by kernel_rfl) rfl (by kernel_rfl) (P.opens_int Try.underlying2) o_terms
end
set_option maxRecDepth 100000 in
theorem o_arg {H : Type} {enc : TypeId × Value → H} {w : World} {r : Reach} {b0 : Nat} {base : Nat} {spare : Nat → Bool} {held : Bool} {v : Value} {d : DataW H} {p : List MemPlace} (hv : Value.okWide Try.prog w r b0 24 v) (h : DataW.Trod enc Try.prog w base spare held 24 v d p) :
 ∃ (pr : Int) (A2 : Option Addr) (c2 : Nat) (ts : List P.S64),
  v = .agg #[.int .i64 pr, .slice A2 ts.length c2] ∧ P.k64.C w A2 ts.length ts ∧ ts.length ≤ c2 ∧
  ts.length ≤ 9223372036854775807 ∧ (∀ t ∈ ts, t.f0.length ≤ 9223372036854775807) := by
 obtain ⟨cs, y, rfl, hk, hok⟩ := P.open_arg Try.underlying24 hv h o_sum
 obtain ⟨pr, ts⟩ := y
 obtain ⟨u4, u5, hcs, hp, ⟨A2, c2, rfl, hl2, hc2⟩⟩ := hk
 obtain ⟨ok1, ok2, ok3⟩ := hok
 have hp2 : u4 = [Value.int .i64 pr] := hp
 subst hp2
 refine ⟨pr, A2, c2, ts, ?_, hc2, hl2, ok2, fun t ht => (ok3 t ht).1.1⟩
 congr 1
 exact Array.ext' hcs
set_option maxRecDepth 100000 in
theorem lifted (os : Os) (started : os.Started) (H : Type) (enc : TypeId × Value → H) :
 ReturnsInHanded {} Try.checked os 3 .any (Rows.fnExactCommutatorOfSpec.pre6 enc Try.prog Try.f3 Rows.fnExactCommutatorOfRow.domain false) (Rows.fnExactCommutatorOfSpec.post enc Try.prog Try.f3 false true false false) := by
 refine returnsInHanded_of_change_sized (C := Try.checked) own started (by kernel_rfl) Try.func3
  (ChangeSpec.witness6 (enc := enc) (C := Try.checked) false ⟨#[], #[.agg #[.int .i64 0, .slice none 0 0], .agg #[.int .i64 0, .slice none 0 0]], []⟩ 8 (by kernel_rfl) (by kernel_rfl) (by kernel_rfl) (by kernel_rfl)) ?_
 intro W base args ds gs before hval0 hW hcnd hsz0 _
 have hval : ∀ (j : Nat) t v, Try.f3.params[j]? = some t → args[j]? = some v → Value.okWide Try.prog W .any base t v := hval0
 have hW' := hW
 obtain ⟨p, q, hA0, hV, rfl, hfz, hnd⟩ := hW
 have hA : DataW.TrodAll enc Try.prog W 0 (fun _ => true) true Try.f3.params.toList args.toList ds p := hA0
 rw [Try.params3] at hA hval
 obtain ⟨v0, vs0, d0, ds0, p0, q0, hargs, rfl, rfl, h0, r0⟩ := trodAll_cons hA
 obtain ⟨v1, vs1, d1, ds1, p1, q1, rfl, rfl, rfl, h1, r1⟩ := trodAll_cons r0
 obtain ⟨rfl, rfl, rfl⟩ := trodAll_nil r1
 obtain rfl : args = #[v0, v1] := by cases args; simp_all
 obtain ⟨rfl, rfl⟩ := trodVars_none hV
 have k0 := h0
 have lt0 : ∀ x ∈ p0, x.block < W.heap.size := by obtain ⟨m, hm⟩ := k0; exact DataW.trod_lt m _ _ _ hm
 have k1 := h1
 have lt1 : ∀ x ∈ p1, x.block < W.heap.size := by obtain ⟨m, hm⟩ := k1; exact DataW.trod_lt m _ _ _ hm
 obtain ⟨pr0, A2, c2, ts0, rfl, hc2, hl2, b0, b1⟩ := o_arg (hval 0 24 v0 rfl rfl) h0
 obtain ⟨pr1, A3, c3, ts1, rfl, hc3, hl3, b2, b3⟩ := o_arg (hval 1 24 v1 rfl rfl) h1
 clear hA0 hval0 hsz0
 refine (P.commLaw_any pr0 pr1 A2 c2 ts0 A3 c3 ts1 W hc2 hl2 hc3 hl3 b0 b2 b1 b3).mono fun e W' ⟨he, bel⟩ => ?_
 subst he
 exact ⟨_, rfl, _, _, _, [], _, [], hW', trodAll_mk1 (shut_bool Try.underlying4 _), (trodAll_cons_mk (Below.trod laidOut (by kernel_rfl) (of_decide_eq_true (by kernel_rfl)) k0 bel lt0) (trodAll_cons_mk (Below.trod laidOut (by kernel_rfl) (of_decide_eq_true (by kernel_rfl)) k1 bel lt1) trodAll_mk0)), rfl, bel.frame _, fun h => by cases h⟩
theorem over : Rows.fnExactCommutatorOfRow.holds Try.pinned (OpenSpec.ofChange Rows.fnExactCommutatorOfSpec) :=
 OpenClaim.holds_of_wide 3 Try.f3 rfl rfl rfl rfl rfl rfl rfl ⟨rfl, rfl, rfl, rfl, rfl⟩ rfl rfl rfl rfl rfl (by kernel_rfl) Try.func3 (by kernel_rfl)
  (of_decide_eq_true (by kernel_rfl)) (by unfold Func.isWrapper; first | (rw [if_pos (by decide +kernel)]; kernel_rfl) | (rw [if_neg (by decide +kernel)]; exact ⟨rfl, rfl⟩))
  (fun os started H enc _ => lifted os started H enc)
theorem proved : Rows.FnExactCommutatorOfSaid := over
#print axioms proved
end Go.Proofs.Ytgcgeoglhebonaa.fnExactCommutatorOf
namespace Go.Proofs.Ytgcgeoglhebonaa
theorem fnExactCommutatorOf_holds : Rows.FnExactCommutatorOfSaid := fnExactCommutatorOf.proved
end Go.Proofs.Ytgcgeoglhebonaa
end
