/- 'FnExactForkLegs' returns true whatever the web and the number, and both read behind the call as they read before: no condition. -/
import Derived.Test.YtibahnmljafkdaaRows
import Derived.Test.YtibahnmljafkdaaCdOpen
import Derived.Test.YtibahnmljafkdaaCdForkLaw
import Derived.WalkKit
import Derived.ProofKit
import Derived.OpenShut
import Derived.ShutString
import Derived.ChangeOld
import Derived.Below
import Derived.SizedLaws
namespace Go.Proofs.Ytibahnmljafkdaa.fnExactForkLegs
open Go.ChangeShapes Go.WideShapes Go.ChangeAt Go.RowKit Go.Proofs.YtibahnmljafkdaaW.PrintWords
open Go.ChangeMaps (open_string shut_string)
set_option linter.unusedVariables false
theorem own : ownKnob Try.prog.godebug = none := by kernel_rfl
theorem laidOut : laidOutB Try.prog = true := by kernel_rfl
section
variable {H : Type} {enc : TypeId × Value → H} {w : World} {base : Nat} {spare : Nat → Bool} {held : Bool}
theorem o_ints : P.Opens enc Try.prog w base spare held 22 (Kd.slice 2 (Kd.int .i64)) (fun l => l.length ≤ 9223372036854775807 ∧ ∀ x ∈ l, (Lit.int .i64 x).wf = true) :=
 P.opens_slice Try.underlying22 (by kernel_rfl) (P.opens_int Try.underlying2)
theorem o_rows : P.Opens enc Try.prog w base spare held 26 (Kd.slice 22 (Kd.slice 2 (Kd.int .i64))) (fun l => l.length ≤ 9223372036854775807 ∧ ∀ x ∈ l, x.length ≤ 9223372036854775807 ∧ ∀ y ∈ x, (Lit.int .i64 y).wf = true) :=
 P.opens_slice Try.underlying26 (by kernel_rfl) o_ints
theorem o_web : P.Opens enc Try.prog w base spare held 28 (Kd.pair (Kd.slice 2 (Kd.int .i64)) (Kd.slice 22 (Kd.slice 2 (Kd.int .i64)))) (fun (x : List Int × List (List Int)) => (x.1.length ≤ 9223372036854775807 ∧ ∀ y ∈ x.1, (Lit.int .i64 y).wf = true) ∧ x.2.length ≤ 9223372036854775807 ∧ ∀ z ∈ x.2, z.length ≤ 9223372036854775807 ∧ ∀ y ∈ z, (Lit.int .i64 y).wf = true) :=
 P.opens_struct2 Try.underlying28 (by kernel_rfl) rfl (by kernel_rfl) o_ints o_rows
end
set_option maxRecDepth 100000 in
theorem o_arg {H : Type} {enc : TypeId × Value → H} {w : World} {r : Reach} {b0 : Nat} {base : Nat} {spare : Nat → Bool} {held : Bool} {v : Value} {d : DataW H} {p : List MemPlace} (hv : Value.okWide Try.prog w r b0 28 v) (h : DataW.Trod enc Try.prog w base spare held 28 v d p) :
 ∃ (A3 : Option Addr) (c3 : Nat) (legs : List Int) (A4 : Option Addr) (c4 : Nat) (forks : List (List Int)),
  v = .agg #[.slice A3 legs.length c3, .slice A4 forks.length c4] ∧
  (Kd.int .i64).C w A3 legs.length legs ∧ legs.length ≤ c3 ∧ (Kd.slice 2 (Kd.int .i64)).C w A4 forks.length forks ∧ forks.length ≤ c4 ∧
  legs.length ≤ 9223372036854775807 ∧ forks.length ≤ 9223372036854775807 ∧ ∀ f ∈ forks, f.length ≤ 9223372036854775807 := by
 obtain ⟨cs, y, rfl, hk, hok⟩ := P.open_arg Try.underlying28 hv h o_web
 obtain ⟨legs, forks⟩ := y
 obtain ⟨u6, u7, hcs, ⟨A3, c3, rfl, hl3, hc3⟩, ⟨A4, c4, rfl, hl4, hc4⟩⟩ := hk
 obtain ⟨ok4, ok5, ok6⟩ := hok
 refine ⟨A3, c3, legs, A4, c4, forks, ?_, hc3, hl3, hc4, hl4, ok4.1, ok5, fun f hf => (ok6 f hf).1⟩
 congr 1
 exact Array.ext' hcs
set_option maxRecDepth 100000 in
theorem lifted (os : Os) (started : os.Started) (H : Type) (enc : TypeId × Value → H) :
 ReturnsInHanded {} Try.checked os 4 .any (Rows.fnExactForkLegsSpec.pre6 enc Try.prog Try.f4 Rows.fnExactForkLegsRow.domain false) (Rows.fnExactForkLegsSpec.post enc Try.prog Try.f4 false true false false) := by
 refine returnsInHanded_of_change_sized (C := Try.checked) own started (by kernel_rfl) Try.func4
  (ChangeSpec.witness6 (enc := enc) (C := Try.checked) false ⟨#[], #[.agg #[.slice none 0 0, .slice none 0 0], .int .i64 0], []⟩ 8 (by kernel_rfl) (by kernel_rfl) (by kernel_rfl) (by kernel_rfl)) ?_
 intro W base args ds gs before hval0 hW hcnd hsz0 _
 have hval : ∀ (j : Nat) t v, Try.f4.params[j]? = some t → args[j]? = some v → Value.okWide Try.prog W .any base t v := hval0
 have hW' := hW
 obtain ⟨p, q, hA0, hV, rfl, hfz, hnd⟩ := hW
 have hA : DataW.TrodAll enc Try.prog W 0 (fun _ => true) true Try.f4.params.toList args.toList ds p := hA0
 rw [Try.params4] at hA hval
 obtain ⟨v0, vs0, d0, ds0, p0, q0, hargs, rfl, rfl, h0, r0⟩ := trodAll_cons hA
 obtain ⟨v1, vs1, d1, ds1, p1, q1, rfl, rfl, rfl, h1, r1⟩ := trodAll_cons r0
 obtain ⟨rfl, rfl, rfl⟩ := trodAll_nil r1
 obtain rfl : args = #[v0, v1] := by cases args; simp_all
 obtain ⟨rfl, rfl⟩ := trodVars_none hV
 have k0 := h0
 have lt0 : ∀ x ∈ p0, x.block < W.heap.size := by obtain ⟨m, hm⟩ := k0; exact DataW.trod_lt m _ _ _ hm
 obtain ⟨A3, c3, legs, A4, c4, forks, rfl, hc3, hl3, hc4, hl4, b3, b4, b5⟩ := o_arg (hval 0 28 v0 rfl rfl) h0
 obtain ⟨a1, rfl, rfl, rfl, w1⟩ := open_int Try.underlying2 (hval 1 2 v1 rfl rfl) h1
 clear hA0 hval0 hsz0
 refine (P.forkLaw_any A3 c3 legs A4 c4 forks a1 W hc3 hl3 hc4 hl4 b3 b4 b5).mono fun e W' ⟨he, bel⟩ => ?_
 subst he
 exact ⟨_, rfl, _, _, _, [], _, [], hW', trodAll_mk1 (shut_bool Try.underlying4 _), (trodAll_cons_mk (Below.trod laidOut (by kernel_rfl) (of_decide_eq_true (by kernel_rfl)) k0 bel lt0) (trodAll_cons_mk (shut_int Try.underlying2 w1) trodAll_mk0)), rfl, bel.frame _, fun h => by cases h⟩
theorem over : Rows.fnExactForkLegsRow.holds Try.pinned (OpenSpec.ofChange Rows.fnExactForkLegsSpec) :=
 OpenClaim.holds_of_wide 4 Try.f4 rfl rfl rfl rfl rfl rfl rfl ⟨rfl, rfl, rfl, rfl, rfl⟩ rfl rfl rfl rfl rfl (by kernel_rfl) Try.func4 (by kernel_rfl)
  (of_decide_eq_true (by kernel_rfl)) (by unfold Func.isWrapper; first | (rw [if_pos (by decide +kernel)]; kernel_rfl) | (rw [if_neg (by decide +kernel)]; exact ⟨rfl, rfl⟩))
  (fun os started H enc _ => lifted os started H enc)
theorem proved : Rows.FnExactForkLegsSaid := over
#print axioms proved
end Go.Proofs.Ytibahnmljafkdaa.fnExactForkLegs
namespace Go.Proofs.Ytibahnmljafkdaa
theorem fnExactForkLegs_holds : Rows.FnExactForkLegsSaid := fnExactForkLegs.proved
end Go.Proofs.Ytibahnmljafkdaa
