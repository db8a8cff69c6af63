/- What a row's argument reads as is what the kinds tell of it: the opening of structs and slices. -/
import Derived.Test.YtibahnmljafkdaaCdPx0
import Derived.ProofKit
import Derived.Deep.Slices
import Derived.Lib.SmallJoins
namespace Go.Proofs.Ytibahnmljafkdaa.P
open Go.ChangeShapes Go.WideShapes Go.RowKit Go.Deep Go.Proofs.YtibahnmljafkdaaW.PrintWords
set_option linter.unusedVariables false
set_option linter.unusedSimpArgs false
section
variable {H : Type} {enc : TypeId × Value → H} {P : Program} {w : World} {base : Nat} {spare : Nat → Bool} {held : Bool}
def Opens {H : Type} (enc : TypeId × Value → H) (P : Program) (w : World) (base : Nat) (spare : Nat → Bool) (held : Bool) {α : Type} (t : TypeId) (d : Kd α) (ok : α → Prop) : Prop :=
 ∀ fuel cs x, DataW.trod enc P w base spare held fuel t cs = some x → ∃ y, d.K w y cs ∧ ok y
theorem opens_int {t : TypeId} {k : IntKind} (ht : P.underlying t = some (.int k)) : Opens enc P w base spare held t (Kd.int k) (fun n => (Lit.int k n).wf = true) := by
 intro fuel cs x h
 obtain ⟨n, rfl, _, hw⟩ := DataW.trod_int ht h
 exact ⟨n, rfl, hw⟩
theorem opens_slice {α : Type} {t e : TypeId} {d : Kd α} {ok : α → Prop} (ht : P.underlying t = some (.slice e)) (he : P.cellsOf e = d.sz) (h : Opens enc P w base spare held e d ok) :
 Opens enc P w base spare held t (Kd.slice e d) (fun l => l.length ≤ 9223372036854775807 ∧ ∀ x ∈ l, ok x) := by
 intro fuel cs x hx
 rcases open_slice ht hx with ⟨rfl, _⟩ | ⟨a, len, cap, m, n, D, Pl, rfl, hb, hl, hm, hmm, _, hel⟩
 · exact ⟨[], ⟨none, 0, rfl, Nat.le_refl _, rfl, by simp, fun h0 => by simp at h0⟩, by simp, by simp⟩
 · have hlm : len ≤ m := by rw [hmm]; split <;> omega
   have hmax : maxLen = 9223372036854775807 := rfl
   have key : ∀ i : Fin len, ∃ y : α, ∃ cs', w.cells? base (a.add (i.1 * P.cellsOf e)) (P.cellsOf e) = some cs' ∧ d.K w y cs' ∧ ok y := fun i => by
    obtain ⟨cs', h1, h2⟩ := hel i.1 (by omega)
    obtain ⟨y, h3, h4⟩ := h n cs' _ h2
    exact ⟨y, cs', h1, h3, h4⟩
   refine ⟨List.ofFn fun i => Classical.choose (key i), ⟨some a, cap, by rw [List.length_ofFn], by rw [List.length_ofFn]; exact hl, rfl, by rw [List.length_ofFn]; omega, fun _ => ⟨a, rfl, fun j p hj => ?_⟩⟩, by rw [List.length_ofFn]; omega, fun y hy => ?_⟩
   · obtain ⟨hj1, hj2⟩ := List.getElem?_eq_some_iff.1 hj
     have hj3 : j < len := by simpa using hj1
     rw [List.getElem_ofFn] at hj2
     obtain ⟨cs', h1, h2, _⟩ := Classical.choose_spec (key ⟨j, hj3⟩)
     rw [hj2] at h2
     obtain ⟨_, h4, h5⟩ := World.cells?_some h1
     refine ⟨cs', h4.trans he, h2, fun i u hu => ?_⟩
     have hi : i < cs'.length := (List.getElem?_eq_some_iff.1 hu).1
     have h6 := h5 i (by omega)
     rw [Go.Deep.add_add, hu] at h6
     simp only [he] at h6
     exact h6
   · obtain ⟨i, rfl⟩ := List.mem_ofFn.1 hy
     obtain ⟨_, _, _, h3⟩ := Classical.choose_spec (key i)
     exact h3
theorem take_split {β : Type} (cs : List β) (n m : Nat) (h : cs.length = n + m) : cs = (cs.drop 0).take n ++ (cs.drop n).take m := by
 rw [List.drop_zero, List.take_of_length_le (l := cs.drop n) (by simp; omega), List.take_append_drop]
theorem opens_struct2 {α β : Type} {t : TypeId} {f0 f1 : Field} {a : Kd α} {b : Kd β} {oka : α → Prop} {okb : β → Prop} (ht : P.underlying t = some (.struct #[f0, f1])) (hc : P.cellsOf t = P.cellsOf f0.type + P.cellsOf f1.type) (h0 : f0.offset = 0) (h1 : f1.offset = P.cellsOf f0.type)
 (ha : Opens enc P w base spare held f0.type a oka) (hb : Opens enc P w base spare held f1.type b okb) : Opens enc P w base spare held t (Kd.pair a b) (fun x => oka x.1 ∧ okb x.2) := by
 intro fuel cs x hx
 obtain ⟨y0, y1, n, _, hl, k0, k1⟩ := trod_struct2 ht hx
 rw [h0] at k0
 rw [h1] at k1
 obtain ⟨u, hu, hu2⟩ := ha n _ _ k0
 obtain ⟨v, hv, hv2⟩ := hb n _ _ k1
 exact ⟨(u, v), ⟨_, _, take_split cs _ _ (hl.trans hc), hu, hv⟩, hu2, hv2⟩
theorem open_arg {α : Type} {r : Reach} {b0 : Nat} {t : TypeId} {fs : Array Field} {v : Value} {d : DataW H} {p : List MemPlace} {k : Kd α} {ok : α → Prop} (hs : P.underlying t = some (.struct fs)) (hv : Value.okWide P w r b0 t v)
 (h : DataW.Trod enc P w base spare held t v d p) (ho : Opens enc P w base spare held t k ok) : ∃ cs y, v = .agg cs ∧ k.K w y cs.toList ∧ ok y := by
 obtain ⟨cs, rfl, _⟩ := okWide_struct hs hv
 obtain ⟨fuel, hf⟩ := h
 obtain ⟨y, h1, h2⟩ := ho fuel _ _ hf
 exact ⟨cs, y, rfl, h1, h2⟩
end
end Go.Proofs.Ytibahnmljafkdaa.P
