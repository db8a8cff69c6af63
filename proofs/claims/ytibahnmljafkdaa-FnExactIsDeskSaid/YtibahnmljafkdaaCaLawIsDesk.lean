/- 'FnExactIsDesk' returns true whatever the desk, and the desk reads behind the call as it read before: no condition. -/
import Derived.Test.YtibahnmljafkdaaRows
import Derived.Test.YtibahnmljafkdaaCaOpen
import Derived.Test.YtibahnmljafkdaaCaPureDesk
import Derived.WalkKit
import Derived.ProofKit
import Derived.OpenShut
import Derived.ShutString
import Derived.ChangeOld
import Derived.Below
import Derived.SizedLaws
namespace Go.Proofs.Ytibahnmljafkdaa.fnExactIsDesk
open Go.ChangeShapes Go.WideShapes Go.ChangeAt Go.RowKit Go.Proofs.YtibahnmljafkdaaW.PrintWords
open Go.ChangeMaps (open_string shut_string)
set_option linter.unusedVariables false
theorem own : ownKnob Try.prog.godebug = none := by kernel_rfl
theorem laidOut : laidOutB Try.prog = true := by kernel_rfl
section
variable {H : Type} {enc : TypeId × Value → H} {w : World} {base : Nat} {spare : Nat → Bool} {held : Bool}
theorem o_ints : P.Opens enc Try.prog w base spare held 22 (Kd.slice 2 (Kd.int .i64)) (fun l => l.length ≤ 9223372036854775807 ∧ ∀ x ∈ l, (Lit.int .i64 x).wf = true) :=
 P.opens_slice Try.underlying22 (by kernel_rfl) (P.opens_int Try.underlying2)
theorem o_rows : P.Opens enc Try.prog w base spare held 26 (Kd.slice 22 (Kd.slice 2 (Kd.int .i64))) (fun l => l.length ≤ 9223372036854775807 ∧ ∀ x ∈ l, x.length ≤ 9223372036854775807 ∧ ∀ y ∈ x, (Lit.int .i64 y).wf = true) :=
 P.opens_slice Try.underlying26 (by kernel_rfl) o_ints
theorem o_term : P.Opens enc Try.prog w base spare held 95 P.k95 (fun t => (t.f0.length ≤ 9223372036854775807 ∧ ∀ x ∈ t.f0, (Lit.int .i64 x).wf = true) ∧ (Lit.int .i64 t.f1).wf = true) :=
 P.opens_iso (fun x : P.S95 => (x.f0, x.f1)) (fun x => ⟨x.1, x.2⟩) (fun _ => rfl) (P.opens_struct2 Try.underlying95 (by kernel_rfl) rfl (by kernel_rfl) o_ints (P.opens_int Try.underlying2))
theorem o_terms : P.Opens enc Try.prog w base spare held 23 (Kd.slice 95 P.k95) (fun l => l.length ≤ 9223372036854775807 ∧ ∀ t ∈ l, (t.f0.length ≤ 9223372036854775807 ∧ ∀ x ∈ t.f0, (Lit.int .i64 x).wf = true) ∧ (Lit.int .i64 t.f1).wf = true) :=
 P.opens_slice Try.underlying23 (by kernel_rfl) o_term
theorem o_sum : P.Opens enc Try.prog w base spare held 25 (Kd.pair (Kd.int .i64) (Kd.slice 95 P.k95)) (fun (x : Int × List P.S95) => (Lit.int .i64 x.1).wf = true ∧ x.2.length ≤ 9223372036854775807 ∧ ∀ t ∈ x.2, (t.f0.length ≤ 9223372036854775807 ∧ ∀ y ∈ t.f0, (Lit.int .i64 y).wf = true) ∧ (Lit.int .i64 t.f1).wf = true) :=
 P.opens_struct2 Try.underlying25 (by kernel_rfl) rfl (by kernel_rfl) (P.opens_int Try.underlying2) o_terms
theorem o_web : P.Opens enc Try.prog w base spare held 28 (Kd.pair (Kd.slice 2 (Kd.int .i64)) (Kd.slice 22 (Kd.slice 2 (Kd.int .i64)))) (fun (x : List Int × List (List Int)) => (x.1.length ≤ 9223372036854775807 ∧ ∀ y ∈ x.1, (Lit.int .i64 y).wf = true) ∧ x.2.length ≤ 9223372036854775807 ∧ ∀ z ∈ x.2, z.length ≤ 9223372036854775807 ∧ ∀ y ∈ z, (Lit.int .i64 y).wf = true) :=
 P.opens_struct2 Try.underlying28 (by kernel_rfl) rfl (by kernel_rfl) o_ints o_rows
end
set_option maxRecDepth 100000 in
theorem o_desk {H : Type} {enc : TypeId × Value → H} {w : World} {r : Reach} {b0 : Nat} {base : Nat} {spare : Nat → Bool} {held : Bool} {v : Value} {d : DataW H} {p : List MemPlace} (hv : Value.okWide Try.prog w r b0 30 v) (h : DataW.Trod enc Try.prog w base spare held 30 v d p) :
 ∃ (A0 : Option Addr) (c0 : Nat) (word : List Int) (pr : Int) (A2 : Option Addr) (c2 : Nat) (ts : List P.S95) (A3 : Option Addr) (c3 : Nat) (legs : List Int) (A4 : Option Addr) (c4 : Nat) (forks : List (List Int)),
  v = .agg #[.slice A0 word.length c0, .int .i64 pr, .slice A2 ts.length c2, .slice A3 legs.length c3, .slice A4 forks.length c4] ∧
  (Kd.int .i64).C w A0 word.length word ∧ word.length ≤ c0 ∧ P.k95.C w A2 ts.length ts ∧ ts.length ≤ c2 ∧ (Kd.int .i64).C w A3 legs.length legs ∧ legs.length ≤ c3 ∧ (Kd.slice 2 (Kd.int .i64)).C w A4 forks.length forks ∧ forks.length ≤ c4 ∧
  word.length ≤ 9223372036854775807 ∧ ts.length ≤ 9223372036854775807 ∧ (∀ t ∈ ts, t.f0.length ≤ 9223372036854775807) ∧ legs.length ≤ 9223372036854775807 ∧ forks.length ≤ 9223372036854775807 ∧ ∀ f ∈ forks, f.length ≤ 9223372036854775807 := by
 obtain ⟨cs, y, rfl, hk, hok⟩ := P.open_arg Try.underlying30 hv h (P.opens_struct3 Try.underlying30 (by kernel_rfl) rfl (by kernel_rfl) (by kernel_rfl) o_ints o_sum o_web)
 obtain ⟨word, ⟨pr, ts⟩, legs, forks⟩ := y
 obtain ⟨u0, u1, hcs, ⟨A0, c0, rfl, hl0, hc0⟩, ⟨u2, u3, rfl, ⟨u4, u5, rfl, hp, ⟨A2, c2, rfl, hl2, hc2⟩⟩, ⟨u6, u7, rfl, ⟨A3, c3, rfl, hl3, hc3⟩, ⟨A4, c4, rfl, hl4, hc4⟩⟩⟩⟩ := hk
 obtain ⟨ok0, ⟨ok1, ok2, ok3⟩, ⟨ok4, ok5, ok6⟩⟩ := hok
 have hp2 : u4 = [Value.int .i64 pr] := hp
 subst hp2
 refine ⟨A0, c0, word, pr, A2, c2, ts, A3, c3, legs, A4, c4, forks, ?_, hc0, hl0, hc2, hl2, hc3, hl3, hc4, hl4, ok0.1, ok2, fun t ht => (ok3 t ht).1.1, ok4.1, ok5, fun f hf => (ok6 f hf).1⟩
 congr 1
 exact Array.ext' hcs
set_option maxRecDepth 100000 in
theorem lifted (os : Os) (started : os.Started) (H : Type) (enc : TypeId × Value → H) :
 ReturnsInHanded {} Try.checked os 3 .any (Rows.fnExactIsDeskSpec.pre6 enc Try.prog Try.f3 Rows.fnExactIsDeskRow.domain false) (Rows.fnExactIsDeskSpec.post enc Try.prog Try.f3 false true false false) := by
 refine returnsInHanded_of_change_sized (C := Try.checked) own started (by kernel_rfl) Try.func3
  (ChangeSpec.witness6 (enc := enc) (C := Try.checked) false ⟨#[], #[.agg #[.slice none 0 0, .int .i64 0, .slice none 0 0, .slice none 0 0, .slice none 0 0]], []⟩ 8 (by kernel_rfl) (by kernel_rfl) (by kernel_rfl) (by kernel_rfl)) ?_
 intro W base args ds gs before hval0 hW hcnd hsz0 _
 have hval : ∀ (j : Nat) t v, Try.f3.params[j]? = some t → args[j]? = some v → Value.okWide Try.prog W .any base t v := hval0
 have hW' := hW
 obtain ⟨p, q, hA0, hV, rfl, hfz, hnd⟩ := hW
 have hA : DataW.TrodAll enc Try.prog W 0 (fun _ => true) true Try.f3.params.toList args.toList ds p := hA0
 rw [Try.params3] at hA hval
 obtain ⟨v0, vs0, d0, ds0, p0, q0, hargs, rfl, rfl, h0, r0⟩ := trodAll_cons hA
 obtain ⟨rfl, rfl, rfl⟩ := trodAll_nil r0
 obtain rfl : args = #[v0] := by cases args; simp_all
 obtain ⟨rfl, rfl⟩ := trodVars_none hV
 have k0 := h0
 have lt0 : ∀ x ∈ p0, x.block < W.heap.size := by obtain ⟨m, hm⟩ := k0; exact DataW.trod_lt m _ _ _ hm
 obtain ⟨A0, c0, word, pr, A2, c2, ts, A3, c3, legs, A4, c4, forks, rfl, hc0, hl0, hc2, hl2, hc3, hl3, hc4, hl4, b0, b1, b2, b3, b4, b5⟩ := o_desk (hval 0 30 v0 rfl rfl) h0
 clear hA0 hval0 hsz0
 obtain ⟨k, hk⟩ := (P.isDesk_true word pr ts legs forks b0 b1 b2 b3 b4 b5).rounds
 refine (P.laws_FnExactIsDesk.calls k A0 c0 word pr A2 c2 ts A3 c3 legs A4 c4 forks true W hc0 hl0 hc2 hl2 hc3 hl3 hc4 hl4 hk).mono fun e W' ⟨he, bel⟩ => ?_
 subst he
 exact ⟨_, rfl, _, _, _, [], _, [], hW', trodAll_mk1 (shut_bool Try.underlying4 _), (trodAll_cons_mk (Below.trod laidOut (by kernel_rfl) (of_decide_eq_true (by kernel_rfl)) k0 bel lt0) trodAll_mk0), rfl, bel.frame _, fun h => by cases h⟩
theorem over : Rows.fnExactIsDeskRow.holds Try.pinned (OpenSpec.ofChange Rows.fnExactIsDeskSpec) :=
 OpenClaim.holds_of_wide 3 Try.f3 rfl rfl rfl rfl rfl rfl rfl ⟨rfl, rfl, rfl, rfl, rfl⟩ rfl rfl rfl rfl rfl (by kernel_rfl) Try.func3 (by kernel_rfl)
  (of_decide_eq_true (by kernel_rfl)) (by unfold Func.isWrapper; first | (rw [if_pos (by decide +kernel)]; kernel_rfl) | (rw [if_neg (by decide +kernel)]; exact ⟨rfl, rfl⟩))
  (fun os started H enc _ => lifted os started H enc)
theorem proved : Rows.FnExactIsDeskSaid := over
#print axioms proved
end Go.Proofs.Ytibahnmljafkdaa.fnExactIsDesk
namespace Go.Proofs.Ytibahnmljafkdaa
theorem fnExactIsDesk_holds : Rows.FnExactIsDeskSaid := fnExactIsDesk.proved
end Go.Proofs.Ytibahnmljafkdaa
