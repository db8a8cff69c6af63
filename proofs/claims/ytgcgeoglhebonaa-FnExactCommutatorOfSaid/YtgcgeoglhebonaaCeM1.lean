/- Part of the claim. -/
import Derived.Test.YtgcgeoglhebonaaCeM0
import Derived.Test.YtgcgeoglhebonaaProg
import Derived.Below
import Derived.Deep.Draws
import Derived.Deep.AppendLies
import Derived.Maps.AppendAt
import Derived.OwnWalk
import Derived.Laws.BytesArg
import Derived.Laws.MakeOwn
import Derived.Laws.OwnMore
import Derived.Deep.OwnRows
import Derived.Tactics
import Derived.Lib.ConvBytes
import Derived.Laws.Slices
import Derived.WalkKit
import Derived.KernelRfl
import Derived.RowKit3
import Derived.Deep.LoopGhost
import Derived.Deep.QuietTactic
import Derived.BigQuiet
import Derived.WideLaws
import Derived.Deep.DeepCutAuto
import Derived.Deep.CutBlock
import Derived.Deep.RegionHeld3
import Derived.Laws.Rows
import Derived.Lib.AppendStr
import Derived.ArgAppend
import Derived.Laws.IdiomCopy
import Derived.OrdersHeld
import Derived.Laws.BitsLemmas
import Derived.RowKit
import Derived.Laws.StructEq
import Derived.ProofKit
import Derived.Deep.Slices
import Derived.Lib.SmallJoins
import Derived.Maps.OwnOps
import Derived.Maps.RangeWalk
import Derived.Maps.OwnSet
import Derived.WalkSpells
set_option maxRecDepth 100000
set_option maxHeartbeats 8000000
section
namespace Go.Proofs.Ytgcgeoglhebonaa.P
open Go.RowKit Go.Proofs.YtgcgeoglhebonaaW.PrintWords Go.Proofs.YtgcgeoglhebonaaW.PrintLast Go.Proofs.YtgcgeoglhebonaaW.PrintMore
attribute [local go_sem] max2_int min2_int max_two min_two max_three min_three max_four min_four   -- for this text's walks alone
set_option linter.unusedVariables false
set_option linter.unusedSimpArgs false
theorem info2 : (Try.prog.info? 2).map (fun i => (i.zero, i.size, i.bytes)) = some (some (.int .i64 0), 1, 8) := by kernel_rfl
theorem info65 : (Try.prog.info? 65).map (fun i => (i.zero, i.size, i.bytes)) = some (some (.agg #[(.slice none 0 0), (.int .i64 0)]), 2, 32) := by kernel_rfl
structure S64 where
 f0 : (List Int)
 f1 : Int
def z64 : S64 := ⟨([] : List Int), (0 : Int)⟩
def k64 : Kd S64 := Kd.iso (Kd.pair (Kd.slice 2 (Kd.int .i64)) (Kd.int .i64)) (fun x : S64 => (x.f0, x.f1))
theorem k64_open {w : World} {x : S64} {cs : List Value} (h : k64.K w x cs) : ∃ A0 c0, cs = [.slice A0 x.f0.length c0, .int .i64 x.f1] ∧ x.f0.length ≤ c0 ∧ (Kd.int .i64).C w A0 x.f0.length x.f0 := by
 obtain ⟨_, _, rfl, ⟨A0, c0, rfl, l0, g0⟩, rfl⟩ := h
 exact ⟨A0, c0, rfl, l0, g0⟩
def rd_T64 (xs : List S64) (i : Int) : S64 := xs.getD i.toNat z64
theorem at_T64 {w : World} {A : Option Addr} {n : Nat} {xs : List S64} (h : Kd.C k64 w A n xs) (i : Int) (h0 : 0 ≤ i) (h1 : i < n) : ∃ ad A0 c0, A = some ad ∧ w.cell? (ad.add (i.toNat * 2)) = some (.slice A0 (rd_T64 xs i).f0.length c0) ∧ w.cell? ⟨(ad.add (i.toNat * 2)).block, (ad.add (i.toNat * 2)).off + 1, none⟩ = some (.int .i64 (rd_T64 xs i).f1) ∧ (rd_T64 xs i).f0.length ≤ c0 ∧ (Kd.int .i64).C w A0 (rd_T64 xs i).f0.length (rd_T64 xs i).f0 := by
 obtain ⟨ad, c, e, _, hK, hc0⟩ := Kd.C_get h z64 i h0 h1
 have hc : ∀ j u, c[j]? = some u → w.cell? (ad.add (i.toNat * 2 + j)) = some u := hc0
 obtain ⟨A0, c0, rfl, l0, g0⟩ := k64_open hK
 exact ⟨ad, A0, c0, e, hc 0 _ rfl, by rw [← add_field _ _ 1 (by omega)]; exact hc 1 _ rfl, l0, g0⟩
structure S65 where
 f0 : (List Int)
 f1 : Int
def z65 : S65 := ⟨([] : List Int), (0 : Int)⟩
def k65 : Kd S65 := Kd.iso (Kd.pair (Kd.slice 2 (Kd.int .i64)) (Kd.int .i64)) (fun x : S65 => (x.f0, x.f1))
theorem k65_open {w : World} {x : S65} {cs : List Value} (h : k65.K w x cs) : ∃ A0 c0, cs = [.slice A0 x.f0.length c0, .int .i64 x.f1] ∧ x.f0.length ≤ c0 ∧ (Kd.int .i64).C w A0 x.f0.length x.f0 := by
 obtain ⟨_, _, rfl, ⟨A0, c0, rfl, l0, g0⟩, rfl⟩ := h
 exact ⟨A0, c0, rfl, l0, g0⟩
theorem k65_openM {w : World} {base : Nat} {ok : Nat → Prop} {x : S65} {cs : List Value} (h : k65.M w base ok x cs) : ∃ v0, cs = [v0, .int .i64 x.f1] ∧ (Kd.int .i64).R 2 w base ok v0 x.f0 := by
 obtain ⟨_, _, rfl, ⟨v0, rfl, g0⟩, rfl⟩ := h
 exact ⟨v0, rfl, g0⟩
theorem k65_mk (w : World) (x : S65) {A0 : Option Addr} {c0 : Nat} (l0 : x.f0.length ≤ c0) (g0 : (Kd.int .i64).C w A0 x.f0.length x.f0) : k65.K w x [.slice A0 x.f0.length c0, .int .i64 x.f1] := ⟨[.slice A0 x.f0.length c0], [.int .i64 x.f1], rfl, ⟨A0, c0, rfl, l0, g0⟩, rfl⟩
theorem k65_mkM (w : World) (base : Nat) (ok : Nat → Prop) (x : S65) {v0 : Value} (g0 : (Kd.int .i64).R 2 w base ok v0 x.f0) : k65.M w base ok x [v0, .int .i64 x.f1] := ⟨[v0], [.int .i64 x.f1], rfl, ⟨v0, rfl, g0⟩, rfl⟩
theorem k65_openF {W : World} {ok : Nat → Prop} {x : S65} {cs : List Value} (h : Kd.FK k65 W ok x cs) : ∃ A0 c0, cs = [.slice A0 x.f0.length c0, .int .i64 x.f1] ∧ x.f0.length ≤ c0 ∧ Kd.F (Kd.int .i64) W ok A0 x.f0.length x.f0 := by
 obtain ⟨A0, c0, rfl, l0, _⟩ := k65_open (Kd.FK_now h)
 exact ⟨A0, c0, rfl, l0, (fun W' hW => by obtain ⟨A0_, c0_, he, l0_, g0_⟩ := k65_open (h W' hW); injection (Option.some.inj (show some (Value.slice A0 x.f0.length c0) = some (Value.slice A0_ x.f0.length c0_) from congrArg (fun l => l[0]?) he)) with ha_ _ _; rw [ha_]; exact g0_)⟩
def rd_T65 (xs : List S65) (i : Int) : S65 := xs.getD i.toNat z65
theorem at_T65 {w : World} {A : Option Addr} {n : Nat} {xs : List S65} (h : Kd.C k65 w A n xs) (i : Int) (h0 : 0 ≤ i) (h1 : i < n) : ∃ ad A0 c0, A = some ad ∧ w.cell? (ad.add (i.toNat * 2)) = some (.slice A0 (rd_T65 xs i).f0.length c0) ∧ w.cell? ⟨(ad.add (i.toNat * 2)).block, (ad.add (i.toNat * 2)).off + 1, none⟩ = some (.int .i64 (rd_T65 xs i).f1) ∧ (rd_T65 xs i).f0.length ≤ c0 ∧ (Kd.int .i64).C w A0 (rd_T65 xs i).f0.length (rd_T65 xs i).f0 := by
 obtain ⟨ad, c, e, _, hK, hc0⟩ := Kd.C_get h z65 i h0 h1
 have hc : ∀ j u, c[j]? = some u → w.cell? (ad.add (i.toNat * 2 + j)) = some u := hc0
 obtain ⟨A0, c0, rfl, l0, g0⟩ := k65_open hK
 exact ⟨ad, A0, c0, e, hc 0 _ rfl, by rw [← add_field _ _ 1 (by omega)]; exact hc 1 _ rfl, l0, g0⟩
end Go.Proofs.Ytgcgeoglhebonaa.P
end
section
namespace Go.Proofs.Ytgcgeoglhebonaa.P
open Go.ChangeShapes Go.WideShapes Go.RowKit Go.Deep Go.Proofs.YtgcgeoglhebonaaW.PrintWords
set_option linter.unusedVariables false
set_option linter.unusedSimpArgs false
section
variable {H : Type} {enc : TypeId × Value → H} {P : Program} {w : World} {base : Nat} {spare : Nat → Bool} {held : Bool}
def Opens {H : Type} (enc : TypeId × Value → H) (P : Program) (w : World) (base : Nat) (spare : Nat → Bool) (held : Bool) {α : Type} (t : TypeId) (d : Kd α) (ok : α → Prop) : Prop :=
 ∀ fuel cs x, DataW.trod enc P w base spare held fuel t cs = some x → ∃ y, d.K w y cs ∧ ok y
theorem opens_int {t : TypeId} {k : IntKind} (ht : P.underlying t = some (.int k)) : Opens enc P w base spare held t (Kd.int k) (fun n => (Lit.int k n).wf = true) := by
 intro fuel cs x h
 obtain ⟨n, rfl, _, hw⟩ := DataW.trod_int ht h
 exact ⟨n, rfl, hw⟩
theorem opens_slice {α : Type} {t e : TypeId} {d : Kd α} {ok : α → Prop} (ht : P.underlying t = some (.slice e)) (he : P.cellsOf e = d.sz) (h : Opens enc P w base spare held e d ok) :
 Opens enc P w base spare held t (Kd.slice e d) (fun l => l.length ≤ 9223372036854775807 ∧ ∀ x ∈ l, ok x) := by
 intro fuel cs x hx
 rcases open_slice ht hx with ⟨rfl, _⟩ | ⟨a, len, cap, m, n, D, Pl, rfl, hb, hl, hm, hmm, _, hel⟩
 · exact ⟨[], ⟨none, 0, rfl, Nat.le_refl _, rfl, by simp, fun h0 => by simp at h0⟩, by simp, by simp⟩
 · have hlm : len ≤ m := by rw [hmm]; split <;> omega
   have hmax : maxLen = 9223372036854775807 := rfl
   have key : ∀ i : Fin len, ∃ y : α, ∃ cs', w.cells? base (a.add (i.1 * P.cellsOf e)) (P.cellsOf e) = some cs' ∧ d.K w y cs' ∧ ok y := fun i => by
    obtain ⟨cs', h1, h2⟩ := hel i.1 (by omega)
    obtain ⟨y, h3, h4⟩ := h n cs' _ h2
    exact ⟨y, cs', h1, h3, h4⟩
   refine ⟨List.ofFn fun i => Classical.choose (key i), ⟨some a, cap, by rw [List.length_ofFn], by rw [List.length_ofFn]; exact hl, rfl, by rw [List.length_ofFn]; omega, fun _ => ⟨a, rfl, fun j p hj => ?_⟩⟩, by rw [List.length_ofFn]; omega, fun y hy => ?_⟩
   · obtain ⟨hj1, hj2⟩ := List.getElem?_eq_some_iff.1 hj
     have hj3 : j < len := by simpa using hj1
     rw [List.getElem_ofFn] at hj2
     obtain ⟨cs', h1, h2, _⟩ := Classical.choose_spec (key ⟨j, hj3⟩)
     rw [hj2] at h2
     obtain ⟨_, h4, h5⟩ := World.cells?_some h1
     refine ⟨cs', h4.trans he, h2, fun i u hu => ?_⟩
     have hi : i < cs'.length := (List.getElem?_eq_some_iff.1 hu).1
     have h6 := h5 i (by omega)
     rw [Go.Deep.add_add, hu] at h6
     simp only [he] at h6
     exact h6
   · obtain ⟨i, rfl⟩ := List.mem_ofFn.1 hy
     obtain ⟨_, _, _, h3⟩ := Classical.choose_spec (key i)
     exact h3
theorem take_split {β : Type} (cs : List β) (n m : Nat) (h : cs.length = n + m) : cs = (cs.drop 0).take n ++ (cs.drop n).take m := by
 rw [List.drop_zero, List.take_of_length_le (l := cs.drop n) (by simp; omega), List.take_append_drop]
theorem opens_struct2 {α β : Type} {t : TypeId} {f0 f1 : Field} {a : Kd α} {b : Kd β} {oka : α → Prop} {okb : β → Prop} (ht : P.underlying t = some (.struct #[f0, f1])) (hc : P.cellsOf t = P.cellsOf f0.type + P.cellsOf f1.type) (h0 : f0.offset = 0) (h1 : f1.offset = P.cellsOf f0.type)
 (ha : Opens enc P w base spare held f0.type a oka) (hb : Opens enc P w base spare held f1.type b okb) : Opens enc P w base spare held t (Kd.pair a b) (fun x => oka x.1 ∧ okb x.2) := by
 intro fuel cs x hx
 obtain ⟨y0, y1, n, _, hl, k0, k1⟩ := trod_struct2 ht hx
 rw [h0] at k0
 rw [h1] at k1
 obtain ⟨u, hu, hu2⟩ := ha n _ _ k0
 obtain ⟨v, hv, hv2⟩ := hb n _ _ k1
 exact ⟨(u, v), ⟨_, _, take_split cs _ _ (hl.trans hc), hu, hv⟩, hu2, hv2⟩
theorem opens_iso {α β : Type} {t : TypeId} {a : Kd α} {oka : α → Prop} (f : β → α) (g : α → β) (hfg : ∀ x, f (g x) = x) (ha : Opens enc P w base spare held t a oka) : Opens enc P w base spare held t (Kd.iso a f) (fun x => oka (f x)) := by
 intro fuel cs x hx
 obtain ⟨y, hy, hy2⟩ := ha fuel cs x hx
 exact ⟨g y, by show a.K w (f (g y)) cs; rw [hfg]; exact hy, by show oka (f (g y)); rw [hfg]; exact hy2⟩
theorem open_arg {α : Type} {r : Reach} {b0 : Nat} {t : TypeId} {fs : Array Field} {v : Value} {d : DataW H} {p : List MemPlace} {k : Kd α} {ok : α → Prop} (hs : P.underlying t = some (.struct fs)) (hv : Value.okWide P w r b0 t v)
 (h : DataW.Trod enc P w base spare held t v d p) (ho : Opens enc P w base spare held t k ok) : ∃ cs y, v = .agg cs ∧ k.K w y cs.toList ∧ ok y := by
 obtain ⟨cs, rfl, _⟩ := okWide_struct hs hv
 obtain ⟨fuel, hf⟩ := h
 obtain ⟨y, h1, h2⟩ := ho fuel _ _ hf
 exact ⟨cs, y, rfl, h1, h2⟩
end
end Go.Proofs.Ytgcgeoglhebonaa.P
end
section
namespace Go.Proofs.Ytgcgeoglhebonaa.P
open Go.RowKit Go.Maps Go.Proofs.YtgcgeoglhebonaaW.PrintWords Go.Proofs.YtgcgeoglhebonaaW.PrintLast
/-- Bits as an array. -/
def bs (k n : Nat) : Array Bool := ((List.range n).map fun i => k.testBit i).toArray
theorem q1 {α : Type _} {l : List α} {i : Nat} {a : α} : l.toArray.setIfInBounds i a = (l.set i a).toArray := List.setIfInBounds_toArray ..
theorem q2 {α : Type _} {a b : α} {l : List α} : (a :: l).set 0 b = b :: l := rfl
theorem q3 {α : Type _} {a b : α} {l : List α} {n : Nat} : (a :: l).set (n + 1) b = a :: l.set n b := rfl
theorem am {p : Prop} (h : p) : Aside0 p := ⟨h⟩
end Go.Proofs.Ytgcgeoglhebonaa.P
end
section
namespace Go.Proofs.Ytgcgeoglhebonaa.P
open Go.RowKit Go.Maps
open Go.ChangeMaps (setBlock)
open Go.MapKept
set_option linter.unusedSectionVars false
set_option linter.unusedVariables false
set_option linter.unusedSimpArgs false
section
variable {κ α : Type} [DecidableEq κ]
def kvGet (kv : List (κ × α)) (x : κ) : Option α := (kv.find? (fun p => decide (p.1 = x))).map (·.2)
def kvPut : List (κ × α) → κ → α → List (κ × α)
 | [], x, v => [(x, v)]
 | (y, u) :: r, x, v => if y = x then (x, v) :: r else (y, u) :: kvPut r x v
theorem kvGet_nil (x : κ) : kvGet ([] : List (κ × α)) x = none := rfl
theorem kvGet_cons (p : κ × α) (kv : List (κ × α)) (x : κ) : kvGet (p :: kv) x = if p.1 = x then some p.2 else kvGet kv x := by
 unfold kvGet
 rw [List.find?_cons]
 by_cases h : p.1 = x <;> simp [h]
theorem kvGet_put_same : ∀ (kv : List (κ × α)) (x : κ) (v : α), kvGet (kvPut kv x v) x = some v
 | [], x, v => by simp [kvPut, kvGet_cons]
 | (y, u) :: r, x, v => by
  by_cases h : y = x
  · simp [kvPut, h, kvGet_cons]
  · simp [kvPut, h, kvGet_cons, kvGet_put_same r x v]
theorem kvGet_put_other : ∀ (kv : List (κ × α)) (x y : κ) (v : α), y ≠ x → kvGet (kvPut kv x v) y = kvGet kv y
 | [], x, y, v, h => by simp [kvPut, kvGet_cons, kvGet_nil, Ne.symm h]
 | (z, u) :: r, x, y, v, h => by
  by_cases hz : z = x
  · subst hz; simp [kvPut, kvGet_cons, Ne.symm h]
  · simp [kvPut, hz, kvGet_cons, kvGet_put_other r x y v h]
theorem kvPut_mem : ∀ (kv : List (κ × α)) (x : κ) (v : α) (p : κ × α), p ∈ kvPut kv x v → p = (x, v) ∨ p ∈ kv
 | [], x, v, p, h => by simp [kvPut] at h; exact .inl h
 | (y, u) :: r, x, v, p, h => by
  by_cases hy : y = x
  · simp [kvPut, hy] at h
    rcases h with h | h
    · exact .inl h
    · exact .inr (List.mem_cons_of_mem _ h)
  · simp [kvPut, hy] at h
    rcases h with h | h
    · exact .inr (by rw [h]; exact List.mem_cons_self)
    · rcases kvPut_mem r x v p h with h | h
      · exact .inl h
      · exact .inr (List.mem_cons_of_mem _ h)
theorem kvGet_none : ∀ {kv : List (κ × α)} {x : κ}, kvGet kv x = none → ∀ p ∈ kv, p.1 ≠ x
 | [], x, h => fun q hq => by cases hq
 | p :: kv, x, h => by
  rw [kvGet_cons] at h
  intro q hq
  by_cases hp : p.1 = x
  · simp [hp] at h
  · rw [if_neg hp] at h
    rcases List.mem_cons.1 hq with rfl | hq
    · exact hp
    · exact kvGet_none h q hq
theorem kvPut_none : ∀ {kv : List (κ × α)} {x : κ} (v : α), kvGet kv x = none → kvPut kv x v = kv ++ [(x, v)]
 | [], x, v, h => rfl
 | p :: kv, x, v, h => by
  rw [kvGet_cons] at h
  by_cases hp : p.1 = x
  · simp [hp] at h
  · rw [if_neg hp] at h
    obtain ⟨y, u⟩ := p
    simp only [kvPut]
    rw [if_neg hp, kvPut_none v h]
    rfl
theorem kvGet_some : ∀ {kv : List (κ × α)} {x : κ} {u : α}, kvGet kv x = some u → ∃ j : Nat, kv[j]? = some (x, u) ∧ ∀ v, kvPut kv x v = kv.set j (x, v)
 | [], x, u, h => by cases h
 | p :: kv, x, u, h => by
  rw [kvGet_cons] at h
  obtain ⟨y, z⟩ := p
  by_cases hp : y = x
  · subst hp
    simp at h
    subst h
    exact ⟨0, rfl, fun v => by simp [kvPut]⟩
  · rw [if_neg hp] at h
    obtain ⟨j, h1, h2⟩ := kvGet_some h
    exact ⟨j + 1, by simpa using h1, fun v => by simp [kvPut, hp, h2]⟩
theorem kvGet_of_mem : ∀ {kv : List (κ × α)} {p : κ × α}, kv.Pairwise (fun a b => a.1 ≠ b.1) → p ∈ kv → kvGet kv p.1 = some p.2
 | q :: kv, p, hd, hp => by
  rw [List.pairwise_cons] at hd
  rw [kvGet_cons]
  rcases List.mem_cons.1 hp with rfl | hp
  · simp
  · rw [if_neg (hd.1 p hp)]
    exact kvGet_of_mem hd.2 hp
theorem mem_of_kvGet : ∀ {kv : List (κ × α)} {x : κ} {u : α}, kvGet kv x = some u → (x, u) ∈ kv := fun h => by
 obtain ⟨j, h1, _⟩ := kvGet_some h
 exact List.mem_of_getElem? h1
theorem kvPut_keys : ∀ (kv : List (κ × α)) (x : κ) (v : α), kv.Pairwise (fun a b => a.1 ≠ b.1) → (kvPut kv x v).Pairwise (fun a b => a.1 ≠ b.1)
 | [], x, v, _ => by simp [kvPut]
 | (y, u) :: r, x, v, h => by
  rw [List.pairwise_cons] at h
  by_cases hy : y = x
  · subst hy
    simp only [kvPut, if_true]
    exact List.pairwise_cons.2 ⟨h.1, h.2⟩
  · simp only [kvPut]
    rw [if_neg hy]
    refine List.pairwise_cons.2 ⟨fun p hp => ?_, kvPut_keys r x v h.2⟩
    rcases kvPut_mem r x v p hp with rfl | hp
    · exact hy
    · exact h.1 p hp
end
structure KeyEnc {κ : Type} (P : Program) (k : TypeId) (enc : κ → Value) : Prop where
 inj : ∀ x y, enc x = enc y → x = y
 check : ∀ (w : World) (em : Bool) (x : κ), (Instr.checkKey em 10000 k (enc x)).run P w = .ok () w
 find : ∀ (w : World) (x : κ) (es : List MapEntry), (∀ e ∈ es, ∃ y, e.key = enc y) →
  ((Instr.findKey k (enc x) es).run P w = .ok none w ∧ ∀ e ∈ es, e.key ≠ enc x) ∨ ∃ j e, (Instr.findKey k (enc x) es).run P w = .ok (some (j, e.val)) w ∧ es[j]? = some e ∧ e.key = enc x
 stays : ∀ (w : World) (x : κ), (Instr.keyThatStays (enc x) (enc x)).run P w = .ok (enc x) w
theorem keyEnc_plain {κ : Type} {P : Program} {k : TypeId} {d : TypeDesc} {enc : κ → Value} (hk : P.underlying k = some d) (hinj : ∀ x y, enc x = enc y → x = y) (hi : ∀ x, IsKey d (enc x)) : KeyEnc P k enc where
 inj := hinj
 check w em x := run_checkKey hk (hi x) em 9999
 find w x es hes := by
  rcases findNow_spec (hi x) es 0 (fun y hy => by obtain ⟨z, hz⟩ := hes y hy; rw [hz]; exact hi z) with ⟨h1, h2⟩ | ⟨j, e0, h1, h2, h3⟩
  · exact Or.inl ⟨run_findKey hk h1, h2⟩
  · exact Or.inr ⟨j, e0, by simpa using run_findKey hk h1, h2, h3⟩
 stays w x := run_keyThatStays (hi x)
theorem keyEnc_int {P : Program} {k : TypeId} {q : IntKind} (hk : P.underlying k = some (.int q)) : KeyEnc P k (Value.int q) := keyEnc_plain hk (fun x y h => by injection h) (fun _ => rfl)
theorem keyEnc_string {P : Program} {k : TypeId} (hk : P.underlying k = some .string) : KeyEnc P k Value.string := keyEnc_plain hk (fun x y h => by injection h) (fun _ => trivial)
section
variable {κ : Type} [DecidableEq κ]
def encKV (enc : κ → Value) (p : κ × Value) : Value × Value := (enc p.1, p.2)
def mapKV (w : World) (enc : κ → Value) (b : Nat) (kv : List (κ × Value)) : Prop :=
 ∃ es clock, w.heap[b]? = some (.map es clock) ∧ Stamped es clock ∧ es.toList.map (fun e => (e.key, e.val)) = kv.map (encKV enc)
variable {P : Program} {k t e : TypeId} {w : World} {enc : κ → Value} {b : Nat} {kv : List (κ × Value)}
theorem mapKV_made (w : World) (enc : κ → Value) : mapKV (w.alloc (.map #[] 0)) enc w.heap.size [] :=
 ⟨#[], 0, (MapKept.heap_alloc w _).1, stamped_empty 0, rfl⟩
theorem mapKV.lt (h : mapKV w enc b kv) : b < w.heap.size := by
 obtain ⟨es, clock, hb, _⟩ := h
 exact (Array.getElem?_eq_some_iff.1 hb).1
theorem mapKV.move {w' : World} (h : mapKV w enc b kv) (hb : w'.heap[b]? = w.heap[b]?) : mapKV w' enc b kv := by
 obtain ⟨es, clock, h1, h2⟩ := h
 exact ⟨es, clock, hb.trans h1, h2⟩
theorem mapKV.kept {w' : World} {row : Option Nat} (h : mapKV w enc b kv) (hg : w.grownBy w' row) (hne : some b ≠ row) : mapKV w' enc b kv := h.move (hg.block b h.lt hne)
theorem mapKV.below {w' : World} (h : mapKV w enc b kv) (hb : Below w.heap.size w w') : mapKV w' enc b kv := h.move (hb.block b h.lt)
theorem mapKV.alloc (h : mapKV w enc b kv) (o : Obj) : mapKV (w.alloc o) enc b kv := h.kept (World.grownBy_alloc w o none) (by simp)
theorem mapKV.distinct (h : mapKV w enc b kv) : kv.Pairwise (fun a c => a.1 ≠ c.1) := by
 obtain ⟨es, clock, _, hs, hm⟩ := h
 have h3 := hs.2.2
 have e1 : es.toList.map (·.key) = kv.map (fun p => enc p.1) := by
  have := congrArg (List.map Prod.fst) hm
  simpa [encKV, Function.comp_def] using this
 rw [e1, List.Nodup, List.pairwise_map] at h3
 exact h3.imp fun hne he => hne (by rw [he])
theorem mapKV.find (h : mapKV w enc b kv) (K : KeyEnc P k enc) (x : κ) :
 ∃ es clock, w.heap[b]? = some (.map es clock) ∧ Stamped es clock ∧ es.toList.map (fun e => (e.key, e.val)) = kv.map (encKV enc) ∧
  ((kvGet kv x = none ∧ (Instr.findKey k (enc x) es.toList).run P w = .ok none w ∧ ∀ e ∈ es.toList, e.key ≠ enc x) ∨
   ∃ j e u, kvGet kv x = some u ∧ (Instr.findKey k (enc x) es.toList).run P w = .ok (some (j, u)) w ∧ es.toList[j]? = some e ∧ e.key = enc x ∧ e.val = u ∧ (∀ v, kvPut kv x v = kv.set j (x, v))) := by
 have hdis := h.distinct
 obtain ⟨es, clock, hb, hs, hm⟩ := h
 have hkeys : ∀ e ∈ es.toList, ∃ y, e.key = enc y := by
  intro e he
  have : (e.key, e.val) ∈ kv.map (encKV enc) := by rw [← hm]; exact List.mem_map.2 ⟨e, he, rfl⟩
  obtain ⟨p, hp, e1⟩ := List.mem_map.1 this
  simp only [encKV, Prod.mk.injEq] at e1
  exact ⟨p.1, e1.1.symm⟩
 refine ⟨es, clock, hb, hs, hm, ?_⟩
 rcases K.find w x es.toList hkeys with ⟨h1, h2⟩ | ⟨j, e0, h1, h2, h3⟩
 · refine .inl ⟨?_, h1, h2⟩
   cases hg : kvGet kv x with
   | none => rfl
   | some u =>
    have hmem := mem_of_kvGet hg
    have : encKV enc (x, u) ∈ es.toList.map (fun e => (e.key, e.val)) := by rw [hm]; exact List.mem_map.2 ⟨_, hmem, rfl⟩
    obtain ⟨e, he, e1⟩ := List.mem_map.1 this
    simp only [encKV, Prod.mk.injEq] at e1
    exact absurd e1.1 (h2 e he)
 · have hj : (kv.map (encKV enc))[j]? = some (e0.key, e0.val) := by rw [← hm, List.getElem?_map, h2]; rfl
   rw [List.getElem?_map] at hj
   cases hp : kv[j]? with
   | none => rw [hp] at hj; simp at hj
   | some p =>
    rw [hp] at hj
    simp only [Option.map_some, Option.some.injEq, encKV, Prod.mk.injEq] at hj
    obtain ⟨y, u⟩ := p
    have hy : y = x := K.inj _ _ (hj.1.trans h3)
    subst hy
    have hu : u = e0.val := hj.2
    have hget : kvGet kv y = some u := kvGet_of_mem hdis (List.mem_of_getElem? hp)
    obtain ⟨j', hj', hput⟩ := kvGet_some hget
    have ejj : j' = j := by
     rcases Nat.lt_trichotomy j' j with hl | hl | hl
     · have hlt := (List.getElem?_eq_some_iff.1 hp).1
       have := (List.pairwise_iff_getElem.1 hdis) j' j (by omega) hlt hl
       rw [(List.getElem?_eq_some_iff.1 hj').2, (List.getElem?_eq_some_iff.1 hp).2] at this
       exact absurd rfl this
     · exact hl
     · have hlt := (List.getElem?_eq_some_iff.1 hj').1
       have := (List.pairwise_iff_getElem.1 hdis) j j' (by omega) hlt hl
       rw [(List.getElem?_eq_some_iff.1 hj').2, (List.getElem?_eq_some_iff.1 hp).2] at this
       exact absurd rfl this
    subst ejj
    exact .inr ⟨j', e0, u, hget, by rw [h1, hu], h2, h3, hu.symm, hput⟩
theorem mapKV.lookup (c : Bool) (h : mapKV w enc b kv) (K : KeyEnc P k enc) (ht : P.underlying t = some (.map k e)) {z : Value} (hz : (zeroValue e).run P w = .ok z w) (x : κ) :
 (Instr.lookup t (.map (some b)) (enc x) c).run P w = .ok (if c then .tuple #[(kvGet kv x).getD z, .bool (kvGet kv x).isSome] else (kvGet kv x).getD z) w := by
 obtain ⟨es, clock, hb, hs, hm, ⟨hg, h1, _⟩ | ⟨j, e0, u, hg, h1, _⟩⟩ := h.find K x
 · simp [Instr.lookup, run_underlying ht, MapKept.run_getObj_map hb, K.check w _ x, h1, hz, hg, Result.andThen]
 · simp [Instr.lookup, run_underlying ht, MapKept.run_getObj_map hb, K.check w _ x, h1, hg, Result.andThen]
theorem mapKV.update (h : mapKV w enc b kv) (K : KeyEnc P k enc) (ht : P.underlying t = some (.map k e)) (x : κ) (v : Value) :
 ∃ w', (Instr.mapUpdate t (.map (some b)) (enc x) v).run P w = .ok () w' ∧ mapKV w' enc b (kvPut kv x v) ∧ w.grownBy w' (some b) ∧ w'.heap.size = w.heap.size := by
 obtain ⟨es, clock, hb, hs, hm, ⟨hg, h1, h2⟩ | ⟨j, e0, u, hg, h1, h2, h3, h4, hput⟩⟩ := h.find K x
 · have hset := MapKept.heap_set (o' := .map (es.push ⟨enc x, v, clock⟩) (clock + 1)) hb
   refine ⟨setBlock w b (.map (es.push ⟨enc x, v, clock⟩) (clock + 1)), ?_, ⟨_, _, hset.1, stamped_push hs h2, ?_⟩, ⟨rfl, rfl, rfl, by simp [setBlock], fun i _ hi => hset.2 i (fun e1 => hi (by rw [e1]))⟩, by simp [setBlock]⟩
   · simp [Instr.mapUpdate, run_underlying ht, MapKept.run_getObj_map hb, K.check w false x, h1, MapKept.run_setObj_map _ hb, Result.andThen, setBlock]
   · rw [kvPut_none v hg, Array.toList_push, List.map_append, hm, List.map_append]
     rfl
 · have hj : es[j]? = some e0 := by simpa using h2
   have hset := MapKept.heap_set (o' := .map (es.modify j (fun e' => { e' with key := enc x, val := v })) clock) hb
   have hkeyf : ∀ e', es[j]? = some e' → ({ e' with key := enc x, val := v } : MapEntry).key = e'.key := fun e' he' => by rw [hj] at he'; cases he'; exact h3.symm
   refine ⟨setBlock w b (.map (es.modify j (fun e' => { e' with key := enc x, val := v })) clock), ?_, ⟨_, _, hset.1, stamped_modify hs _ _ (fun _ _ => rfl) (fun e' _ he' => hkeyf e' he'), ?_⟩, ⟨rfl, rfl, rfl, by simp [setBlock], fun i _ hi => hset.2 i (fun e1 => hi (by rw [e1]))⟩, by simp [setBlock]⟩
   · simp [Instr.mapUpdate, run_underlying ht, MapKept.run_getObj_map hb, K.check w false x, h1, hj, h3, K.stays w x, MapKept.run_setObj_map _ hb, Result.andThen, setBlock]
   · rw [Array.toList_modify, ChangeMaps.modify_eq_set _ _ _ _ h2, List.map_set, hm, hput, List.map_set]
     rfl
def rangeKV (w : World) (enc : κ → Value) (b r : Nat) (kv left : List (κ × Value)) : Prop :=
 ∃ es clock since seen c0, w.heap[b]? = some (.map es clock) ∧ Stamped es clock ∧ es.toList.map (fun e => (e.key, e.val)) = kv.map (encKV enc) ∧
  w.heap[r]? = some (.mapIter (some b) since seen c0) ∧ (∀ x ∈ es.toList, x.born < since) ∧ since ≤ c0 ∧ since ≤ clock ∧ (leftOf es seen).toList.map (fun e => (e.key, e.val)) = left.map (encKV enc)
theorem rangeKV.owns {r : Nat} {left : List (κ × Value)} (h : rangeKV w enc b r kv left) : mapKV w enc b kv := by
 obtain ⟨es, clock, _, _, _, h1, h2, h3, _⟩ := h
 exact ⟨es, clock, h1, h2, h3⟩
theorem rangeKV.move {w' : World} {r : Nat} {left : List (κ × Value)} (h : rangeKV w enc b r kv left) (hb : w'.heap[b]? = w.heap[b]?) (hr : w'.heap[r]? = w.heap[r]?) : rangeKV w' enc b r kv left := by
 obtain ⟨es, clock, since, seen, c0, h1, h2, h4, h5, h6⟩ := h
 exact ⟨es, clock, since, seen, c0, hb.trans h1, h2, h4, hr.trans h5, h6⟩
theorem rangeKV.ltr {r : Nat} {left : List (κ × Value)} (h : rangeKV w enc b r kv left) : r < w.heap.size := by
 obtain ⟨es, clock, since, seen, c0, h1, h2, h4, h5, h6⟩ := h
 exact (Array.getElem?_eq_some_iff.1 h5).1
theorem rangeKV.kept {w' : World} {row : Option Nat} {r : Nat} {left : List (κ × Value)} (h : rangeKV w enc b r kv left) (hg : w.grownBy w' row) (hb : some b ≠ row) (hr : some r ≠ row) : rangeKV w' enc b r kv left :=
 h.move (hg.block b h.owns.lt hb) (hg.block r h.ltr hr)
theorem rangeKV.below {w' : World} {r : Nat} {left : List (κ × Value)} (h : rangeKV w enc b r kv left) (hb : Below w.heap.size w w') : rangeKV w' enc b r kv left := h.move (hb.block b h.owns.lt) (hb.block r h.ltr)
theorem mapKV.range (h : mapKV w enc b kv) (ht : P.underlying t = some (.map k e)) :
 ∃ w', (Instr.range t (.map (some b))).run P w = .ok (.pointer (some ⟨w.heap.size, 0, none⟩)) w' ∧ rangeKV w' enc b w.heap.size kv kv ∧ w.grownBy w' none ∧ w'.heap.size = w.heap.size + 1 := by
 have hlt := h.lt
 obtain ⟨es, clock, hb, hs, hm⟩ := h
 refine ⟨_, run_range_map w t k e b es clock ht hb, ⟨es, clock, clock, #[], clock, ((MapKept.heap_alloc w _).2 b hlt).trans hb, hs, hm, (MapKept.heap_alloc w _).1, hs.1, Nat.le_refl _, Nat.le_refl _, ?_⟩, World.grownBy_alloc w _ none, by simp⟩
 have : leftOf es #[] = es := by unfold leftOf; exact Array.filter_eq_self.2 (fun x hx => by simp)
 rw [this]; exact hm
theorem rangeKV.next {r : Nat} {left : List (κ × Value)} (h : rangeKV w enc b r kv left) (hne : b ≠ r) (hinj : ∀ x y, enc x = enc y → x = y) (ty : TypeId) :
 (left = [] ∧ (Instr.next (.pointer (some ⟨r, 0, none⟩)) false ty).run P w = .ok (.tuple #[.bool false]) w) ∨
 ∃ p w', p ∈ left ∧ p ∈ kv ∧ (Instr.next (.pointer (some ⟨r, 0, none⟩)) false ty).run P w = .ok (.tuple #[.bool true, enc p.1, p.2]) w' ∧
  rangeKV w' enc b r kv (left.filter fun q => !decide (q.1 = p.1)) ∧ w.grownBy w' (some r) ∧ w'.heap.size = w.heap.size ∧ (Instr.entry (.pointer (some ⟨r, 0, none⟩))).run P w' = .ok (.tuple #[enc p.1, p.2]) w' := by
 obtain ⟨es, clock, since, seen, c0, hb, hs, hm, hr, hold, hsc, hsk, hl⟩ := h
 rcases run_next_at (P := P) w ty r b since c0 seen es clock hr hb hold hsc with ⟨h0, hrun⟩ | ⟨e, he, w1, hal, hrun⟩
 · refine Or.inl ⟨?_, hrun⟩
   have : (leftOf es seen).toList = [] := by simpa using h0
   rw [this] at hl
   simpa using hl.symm
 · obtain ⟨hem, hes⟩ := mem_left he
   have hr1 : w1.heap[r]? = some (.mapIter (some b) since seen c0) := by rcases hal with rfl | rfl <;> exact hr
   have hb1 : w1.heap[b]? = some (.map es clock) := by rcases hal with rfl | rfl <;> exact hb
   have hset := MapKept.heap_set (o' := .mapIter (some b) since (seen.push e.born) clock) hr1
   have hb' : (setBlock w1 r (.mapIter (some b) since (seen.push e.born) clock)).heap[b]? = some (.map es clock) := (hset.2 b hne).trans hb1
   have : (e.key, e.val) ∈ left.map (encKV enc) := by rw [← hl]; exact List.mem_map.2 ⟨e, he, rfl⟩
   obtain ⟨p, hp, hpe⟩ := List.mem_map.1 this
   have : (e.key, e.val) ∈ kv.map (encKV enc) := by rw [← hm]; exact List.mem_map.2 ⟨e, hem, rfl⟩
   obtain ⟨p', hp', hpe'⟩ := List.mem_map.1 this
   have epp : p' = p := by
    rw [← hpe] at hpe'
    simp only [encKV, Prod.mk.injEq] at hpe'
    exact Prod.ext (hinj _ _ hpe'.1) hpe'.2
   subst epp
   simp only [encKV, Prod.mk.injEq] at hpe
   refine Or.inr ⟨p', setBlock w1 r (.mapIter (some b) since (seen.push e.born) clock), hp, hp', by rw [hpe.1, hpe.2]; exact hrun,
    ⟨es, clock, since, seen.push e.born, clock, hb', hs, hm, hset.1, hold, hsk, hsk, ?_⟩, ?_, ?_, by rw [hpe.1, hpe.2]; exact run_entry_at _ r b since seen es clock e hset.1 hb' hem ((stamped_iff es clock).1 hs).2.1⟩
   · haveI : DecidableEq Value := Classical.typeDecidableEq Value
     have e1 : (leftOf es (seen.push e.born)).toList = (leftOf es seen).toList.filter (fun x => !(x.born == e.born)) := by
      unfold leftOf
      rw [Array.toList_filter, Array.toList_filter, List.filter_filter]
      refine List.filter_congr fun x _ => ?_
      rw [contains_push]
      cases seen.contains x.born <;> cases (x.born == e.born) <;> rfl
     have e2 : (leftOf es seen).toList.filter (fun x => !(x.born == e.born)) = (leftOf es seen).toList.filter (fun x => decide (x.key ≠ e.key)) := by
      refine List.filter_congr fun x hx => ?_
      have hxm := (mem_left hx).1
      have hst := (stamped_iff es clock).1 hs
      by_cases hbe : x.born = e.born
      · obtain rfl := born_inj hst.2.1 hxm hem hbe
        simp
      · by_cases hke : x.key = e.key
        · exact absurd (congrArg MapEntry.born (entry_eq_of_key hst.2.2 hxm hem hke)) hbe
        · simp [hbe, hke]
     rw [e1, e2]
     have e3 : ((leftOf es seen).toList.filter (fun x => decide (x.key ≠ e.key))).map (fun e => (e.key, e.val)) = ((leftOf es seen).toList.map (fun e => (e.key, e.val))).filter (fun q => decide (q.1 ≠ e.key)) := by
      rw [List.filter_map]; rfl
     rw [e3, hl, List.filter_map]
     congr 1
     refine List.filter_congr fun q _ => ?_
     simp only [Function.comp, encKV]
     by_cases hq : q.1 = p'.1
     · simp [hq, hpe.1]
     · have : enc q.1 ≠ e.key := fun h => hq (hinj _ _ (h.trans hpe.1.symm))
       simp [hq, this]
   · rcases hal with rfl | rfl <;> exact ⟨rfl, rfl, rfl, by simp [setBlock], fun i _ hi => hset.2 i (fun e1 => hi (by rw [e1]))⟩
   · rcases hal with rfl | rfl <;> simp [setBlock]
variable {ops : Array Oper} {rest : List Oper} {o : Oper} {a : Act} {Q : Exit → Act → World → Prop}
theorem wpList_lookup_kv (hg : o.guard = none) (m x : Operand) (t : TypeId) (hop : o.op = Op.lookup t m x false) (k e : TypeId) (enc : κ → Value) (K : KeyEnc P k enc) (ht : P.underlying t = some (.map k e)) (z : Value) (hz : (zeroValue e).run P w = .ok z w)
 (b : Nat) (kv : List (κ × Value)) (hm : a.eval m = .map (some b)) (h : mapKV w enc b kv) (y : κ) (hx : a.eval x = enc y)
 (u : Value) (hu : (kvGet kv y).getD z = u) (hK : wpList P ops Q rest (a.put o.dst u) w) : wpList P ops Q (o :: rest) a w := by
 refine wpList_plain hg fun K' hK' => ?_
 have hrun := h.lookup false K ht hz y
 rw [hu] at hrun
 unfold Oper.wp
 simp only [Bool.false_eq_true, if_false] at hrun
 simp [execOp, hop, hm, hx, hrun, Result.andThen]
 exact hK' _ _ hK
theorem wpList_lookup_kv_ok (hg : o.guard = none) (m x : Operand) (t : TypeId) (hop : o.op = Op.lookup t m x true) (k e : TypeId) (enc : κ → Value) (K : KeyEnc P k enc) (ht : P.underlying t = some (.map k e)) (z : Value) (hz : (zeroValue e).run P w = .ok z w)
 (b : Nat) (kv : List (κ × Value)) (hm : a.eval m = .map (some b)) (h : mapKV w enc b kv) (y : κ) (hx : a.eval x = enc y)
 (u : Value) (ok : Bool) (hu : (kvGet kv y).getD z = u) (hok : (kvGet kv y).isSome = ok) (hK : wpList P ops Q rest (a.put o.dst (.tuple #[u, .bool ok])) w) : wpList P ops Q (o :: rest) a w := by
 refine wpList_plain hg fun K' hK' => ?_
 have hrun := h.lookup true K ht hz y
 rw [hu, hok] at hrun
 unfold Oper.wp
 simp only [if_true] at hrun
 simp [execOp, hop, hm, hx, hrun, Result.andThen]
 exact hK' _ _ hK
theorem mapKV.len (h : mapKV w enc b kv) (ht : P.underlying t = some (.map k e)) (ty : TypeId) : (Builtin.len_ #[t] ty #[.map (some b)]).run P w = .ok (.int .i64 kv.length) w := by
 obtain ⟨es, clock, hb, hs, hm⟩ := h
 have e1 : es.size = kv.length := by have := congrArg List.length hm; simpa using this
 simp [Builtin.len_, run_underlying ht, MapKept.run_getObj_map hb, goInt, Result.andThen, e1]
theorem wpList_len_kv (hg : o.guard = none) (m : Operand) (t : TypeId) (hop : o.op = Op.call { callee := Callee.builtin Builtin.len, args := #[m], argTypes := #[t] }) (k e : TypeId) (ht : P.underlying t = some (.map k e)) (enc : κ → Value) (b : Nat) (kv : List (κ × Value))
 (hm : a.eval m = .map (some b)) (h : mapKV w enc b kv) (hK : wpList P ops Q rest (a.put o.dst (.int .i64 kv.length)) w) : wpList P ops Q (o :: rest) a w := by
 refine wpList_plain hg fun K' hK' => ?_
 unfold Oper.wp
 simp [execOp, hop, resolve, invoke, builtin, hm, mapKV.len (P := P) h ht o.type, Result.andThen]
 exact hK' _ _ hK
theorem wpList_mapUpdate_kv (hg : o.guard = none) (m x v : Operand) (t : TypeId) (hop : o.op = Op.mapUpdate t m x v) (k e : TypeId) (enc : κ → Value) (K : KeyEnc P k enc) (ht : P.underlying t = some (.map k e))
 (b : Nat) (kv : List (κ × Value)) (hm : a.eval m = .map (some b)) (h : mapKV w enc b kv) (y : κ) (hx : a.eval x = enc y) (u : Value) (hv : a.eval v = u)
 (hK : ∀ w', mapKV w' enc b (kvPut kv y u) → w.grownBy w' (some b) → w'.heap.size = w.heap.size → wpList P ops Q rest (a.put o.dst undef) w') : wpList P ops Q (o :: rest) a w := by
 refine wpList_plain hg fun K' hK' => ?_
 obtain ⟨w', hrun, r1, r2, r3⟩ := h.update K ht y u
 unfold Oper.wp
 simp [execOp, hop, hm, hx, hv, hrun, Result.andThen]
 exact hK' _ _ (hK w' r1 r2 r3)
theorem wpList_range_kv (hg : o.guard = none) (m : Operand) (t : TypeId) (hop : o.op = Op.range t m) (k e : TypeId) (ht : P.underlying t = some (.map k e)) (enc : κ → Value) (b : Nat) (kv : List (κ × Value))
 (hm : a.eval m = .map (some b)) (h : mapKV w enc b kv)
 (hK : ∀ w', rangeKV w' enc b w.heap.size kv kv → w.grownBy w' none → w'.heap.size = w.heap.size + 1 → wpList P ops Q rest (a.put o.dst (.pointer (some ⟨w.heap.size, 0, none⟩))) w') : wpList P ops Q (o :: rest) a w := by
 refine wpList_plain hg fun K' hK' => ?_
 obtain ⟨w', hrun, r1, r2, r3⟩ := h.range ht
 unfold Oper.wp
 simp [execOp, hop, hm, hrun, Result.andThen]
 exact hK' _ _ (hK w' r1 r2 r3)
theorem wpList_next_kv (hg : o.guard = none) (it : Operand) (hop : o.op = Op.next it false) (k : TypeId) (enc : κ → Value) (hinj : ∀ x y, enc x = enc y → x = y) (b r : Nat) (kv left : List (κ × Value)) (hne : b ≠ r)
 (hit : a.eval it = .pointer (some ⟨r, 0, none⟩)) (h : rangeKV w enc b r kv left)
 (hDone : left = [] → wpList P ops Q rest (a.put o.dst (.tuple #[.bool false])) w)
 (hMore : ∀ (p : κ × Value) (w' : World), p ∈ left → p ∈ kv → rangeKV w' enc b r kv (left.filter fun q => !decide (q.1 = p.1)) → w.grownBy w' (some r) → w'.heap.size = w.heap.size →
  (Instr.entry (.pointer (some ⟨r, 0, none⟩))).run P w' = .ok (.tuple #[enc p.1, p.2]) w' → wpList P ops Q rest (a.put o.dst (.tuple #[.bool true, enc p.1, p.2])) w') : wpList P ops Q (o :: rest) a w := by
 refine wpList_plain hg fun K' hK' => ?_
 unfold Oper.wp
 rcases rangeKV.next (P := P) h hne hinj o.type with ⟨hl, hrun⟩ | ⟨p, w', hp, hpk, hrun, r1, r2, r3, r4⟩
 · simp [execOp, hop, hit, hrun, Result.andThen]
   exact hK' _ _ (hDone hl)
 · simp [execOp, hop, hit, hrun, Result.andThen]
   exact hK' _ _ (hMore p w' hp hpk r1 r2 r3 r4)
end
theorem len_filter_lt {κ α : Type} [DecidableEq κ] {l : List (κ × α)} {p : κ × α} (h : p ∈ l) : (l.filter fun q => !decide (q.1 = p.1)).length < l.length := by
 induction l with
 | nil => cases h
 | cons q l ih =>
  rw [List.filter_cons]
  by_cases hq : q.1 = p.1
  · simp [hq]
    have := List.length_filter_le (fun q => !decide (q.1 = p.1)) l
    omega
  · simp only [hq, decide_false, Bool.not_false, if_true, List.length_cons]
    have hp : p ∈ l := by
     rcases List.mem_cons.1 h with rfl | h
     · exact absurd rfl hq
     · exact h
    have := ih hp
    omega
def evI {κ : Type} (kv : List (κ × Int)) : List (κ × Value) := kv.map fun p => (p.1, .int .i64 p.2)
theorem evI_get {κ : Type} [DecidableEq κ] : ∀ (kv : List (κ × Int)) (x : κ), kvGet (evI kv) x = (kvGet kv x).map (Value.int .i64)
 | [], x => rfl
 | p :: kv, x => by
  have := evI_get kv x
  simp only [evI, List.map_cons, kvGet_cons] at this ⊢
  by_cases h : p.1 = x
  · simp [h]
  · simp only [if_neg h]; exact this
theorem evI_put {κ : Type} [DecidableEq κ] : ∀ (kv : List (κ × Int)) (x : κ) (v : Int), kvPut (evI kv) x (.int .i64 v) = evI (kvPut kv x v)
 | [], x, v => rfl
 | (y, u) :: kv, x, v => by
  have := evI_put kv x v
  simp only [evI, List.map_cons, kvPut] at this ⊢
  by_cases h : y = x
  · simp [h]
  · simp only [if_neg h, List.map_cons, this]
theorem intEnc_inj (x y : Int) (h : Value.int .i64 x = Value.int .i64 y) : x = y := by injection h
end Go.Proofs.Ytgcgeoglhebonaa.P
end
section
namespace Go.Proofs.Ytgcgeoglhebonaa.P
open Go.RowKit Go.Maps Go.Proofs.YtgcgeoglhebonaaW.PrintWords Go.Proofs.YtgcgeoglhebonaaW.PrintLast Go.Proofs.YtgcgeoglhebonaaW.PrintMore
set_option linter.unusedVariables false
set_option linter.unusedSimpArgs false
set_option linter.unusedSectionVars false
section
variable {κ : Type} [DecidableEq κ] {α : Type} {d : Kd α} {e base : Nat} {w w1 : World} {ok : Nat → Prop} {v : Value} {xs : List α} {enc : κ → Value} {b : Nat} {kv : List (κ × Value)}
theorem cells_not_map (h : d.R e w base ok v xs) (hm : mapKV w enc b kv) : v.ownBlock ≠ some b := by
 intro hk
 obtain ⟨_, inner, ho, _⟩ := h
 obtain ⟨cells, hc⟩ := own_typed ho b hk
 obtain ⟨es, clock, hb, _⟩ := hm
 rw [hc] at hb
 cases hb
theorem row_of_map (h : d.R e w base ok v xs) (hm : mapKV w enc b kv) (hg : w.grownBy w1 (some b)) : d.R e w1 base ok v xs := by
 refine Kd.R_mono (Kd.R_grown (Kd.R_bound h) hg fun k hk he => ?_) (fun _ hk => hk.1)
 obtain ⟨_, _, _, q, _, cells, hc⟩ := hk
 obtain ⟨es, clock, hb, _⟩ := hm
 cases he
 rw [hc] at hb
 cases hb
theorem map_of_row (hm : mapKV w enc b kv) (h : d.R e w base ok v xs) (hg : w.grownBy w1 v.ownBlock) : mapKV w1 enc b kv := hm.kept hg (Ne.symm (cells_not_map h hm))
end
theorem take_succ_rd (l : List Int) (k : Nat) (h : k < l.length) : l.take (k + 1) = l.take k ++ [rd l (k : Int)] := by
 rw [List.take_succ_eq_append_getElem h]
 simp [rd, List.getD_eq_getElem?_getD, List.getElem?_eq_getElem h]
theorem R_open {α : Type} {d : Kd α} {e base n : Nat} {w : World} {ok : Nat → Prop} {v : Value} {xs : List α} (h : d.R e w base ok v xs) (hn : xs.length = n) : ∃ A c, v = .slice A n c ∧ d.R e w base ok (.slice A n c) xs := by
 obtain ⟨A, c, rfl⟩ := Kd.R_slice h
 subst hn
 exact ⟨A, c, rfl, h⟩
theorem below_of_grown {w w1 : World} (h : w.grownBy w1 none) : Below w.heap.size w w1 := ⟨h.os, h.tape, h.output, h.size, fun k hk => h.block k hk (by simp)⟩
theorem keyI64 : KeyEnc Try.prog 2 (Value.int .i64) := keyEnc_int Try.underlying2
theorem zeroI (w : World) : (zeroValue 3).run Try.prog w = .ok (.int .i64 0) w := by kernel_rfl
theorem zeroI64 (w : World) : (zeroValue 2).run Try.prog w = .ok (.int .i64 0) w := by kernel_rfl
section
variable {ops : Array Oper} {rest : List Oper} {o : Oper} {a : Act} {Q : Exit → Act → World → Prop} {w W : World}
theorem appI (hgd : o.guard = none) (s x : Operand) (ho : o.op = .call { callee := .builtin .append, args := #[s, x], argTypes := #[50, 50] })
 (v : Value) (xs : List Int) (p : Int) (ok : Nat → Prop) (hs : a.eval s = v) (hx : a.eval x = .slice (some ⟨W.heap.size, 0, none⟩) 1 1) (HO : Kd.R (Kd.int .i64) 2 W w.heap.size ok v xs) (hfresh : ∀ k, W.heap.size ≤ k → ok k)
 (HB : Below w.heap.size w W) (hl : xs.length ≤ 17592186044414)
 (h : ∀ v1 w1, Kd.R (Kd.int .i64) 2 w1 w.heap.size ok v1 (xs ++ [p]) → Below w.heap.size w w1 → W.grownBy w1 v.ownBlock → (v1.ownBlock = v.ownBlock ∨ ∃ b, v1.ownBlock = some b ∧ W.heap.size ≤ b) → wpList Try.prog ops Q rest (a.put o.dst v1) w1) :
 wpList Try.prog ops Q (o :: rest) a (W.alloc (.cells #[.int .i64 p] 2)) :=
 Kd.R_append (Kd.int .i64) (w0 := w) w.heap.size hgd s x 50 2 (.int .i64 0) 8 ho Try.underlying50 info2 rfl (by decide) (by omega) v xs p [.int .i64 p] ok (fun _ => False) hs hx rfl (fun _ h => h.elim) hfresh HO HB HB.size (by omega) h
theorem litI (N : Tmp) (hd : o.dst = some N) (hgd : o.guard = none) (xs : List Int) (ok : Nat → Prop)
 (hrun : (execOp a.eval o).run Try.prog W = .ok (.value (.slice (some ⟨W.heap.size, 0, none⟩) xs.length xs.length)) (W.alloc (.cells (xs.map (Value.int .i64)).toArray 2)))
 (hfresh : ok W.heap.size) (HB : Below w.heap.size w W) (hm : xs.length ≤ 9223372036854775807)
 (h : ∀ v1 w1, Kd.R (Kd.int .i64) 2 w1 w.heap.size ok v1 xs → Below w.heap.size w w1 → W.grownBy w1 none → (∃ b, v1.ownBlock = some b ∧ W.heap.size ≤ b) → wpList Try.prog ops Q rest (a.put o.dst v1) w1) :
 wpList Try.prog ops Q (o :: rest) a W :=
 Kd.R_lit (Kd.int .i64) (w0 := w) w.heap.size 2 hgd hd (xs := xs) (inner := xs.map (Value.int .i64)) (ok := ok) (okp := fun _ => False) hrun (Kd.reps_scalar xs) (fun _ h => h.elim) hfresh HB HB.size hm h
end
end Go.Proofs.Ytgcgeoglhebonaa.P
end
section
namespace Go.Proofs.Ytgcgeoglhebonaa.P
open Go.RowKit Go.Proofs.YtgcgeoglhebonaaW.PrintWords Go.Proofs.YtgcgeoglhebonaaW.PrintLast
set_option linter.unusedVariables false
set_option linter.unusedSimpArgs false
theorem ev_val {α : Type} {r r' : α} (h : r' = r) : Ev (fun _ => some r') r := by subst h; exact Ev.now _
theorem wr1 (i n : Nat) (h : i < n) (hn : n ≤ 1000000000000000) : wrap64 ((i : Int) + 1) = ((i + 1 : Nat) : Int) := by unfold wrap64; omega
theorem rd_drop (l : List Int) (i : Nat) (h : i < l.length) : l.drop i = rd l (i : Int) :: l.drop (i + 1) := by
 rw [List.drop_eq_getElem_cons h]
 simp [rd, List.getD_eq_getElem?_getD, List.getElem?_eq_getElem h]
end Go.Proofs.Ytgcgeoglhebonaa.P
end
section
namespace Go.Proofs.Ytgcgeoglhebonaa.P
open Go.RowKit Go.Proofs.YtgcgeoglhebonaaW.PrintWords Go.Proofs.YtgcgeoglhebonaaW.PrintLast Go.Proofs.YtgcgeoglhebonaaW.PrintMore
attribute [local go_sem] max2_int min2_int max_two min_two max_three min_three max_four min_four   -- for this text's walks alone
set_option linter.unusedVariables false
set_option linter.unusedSimpArgs false
def laws_szInt64S.f (l0 : List Int) (a1 : Int) : Option (Int) := if (wrap64 (a1 - (l0.length : Int))) < 0 then (some (-1)) else (some (wrap64 (a1 - (l0.length : Int))))
theorem laws_szInt64S.calls (A0 : Option Addr) (c0 : Nat) (l0 : List Int) (a1 : Int) (r : Int) (w : World) (hr0 : Kd.C (Kd.int .i64) w A0 l0.length l0) (hc0 : l0.length ≤ c0) (h : laws_szInt64S.f l0 a1 = some r) :
 Calls Try.prog 74 #[.slice A0 l0.length c0, .int .i64 a1] w fun e w' => e = .returned (.int .i64 r) ∧ Drawn0 w w' := by
 have HR0 := am hr0
 have HC0 := am hc0
 clear hr0 hc0
 have H : (if (wrap64 (a1 - (l0.length : Int))) < 0 then (some (-1)) else (some (wrap64 (a1 - (l0.length : Int))))) = some r := h
 clear h
 by_cases c3 : (wrap64 (a1 - (l0.length : Int))) < 0
 · rw [if_pos c3] at H
   have c3b0 : decide ((wrap64 (a1 - (l0.length : Int))) < 0) = true := decide_eq_true c3
   clear c3
   obtain rfl := Option.some.inj H
   go_enter Try.func74, Try.ntmps74
   go_wp2
   go_ret
   exact ⟨by rfl, by repeat (exact Drawn0.refl _)⟩
 · rw [if_neg c3] at H
   have c3b0 : decide ((wrap64 (a1 - (l0.length : Int))) < 0) = false := decide_eq_false c3
   clear c3
   obtain rfl := Option.some.inj H
   go_enter Try.func74, Try.ntmps74
   go_wp2
   go_ret
   exact ⟨by rfl, by repeat (exact Drawn0.refl _)⟩
def laws_szTerm.f (l0_0 : List Int) (a0_1 : Int) (a1 : Int) : Option (Int) := (laws_szInt64S.f l0_0 a1).bind fun t102 => (if t102 < 0 then (some (-1)) else (some t102))
theorem laws_szTerm.calls (A0_0 : Option Addr) (c0_0 : Nat) (l0_0 : List Int) (a0_1 : Int) (a1 : Int) (r : Int) (w : World) (hr0_0 : Kd.C (Kd.int .i64) w A0_0 l0_0.length l0_0) (hc0_0 : l0_0.length ≤ c0_0) (h : laws_szTerm.f l0_0 a0_1 a1 = some r) :
 Calls Try.prog 47 #[.agg #[.slice A0_0 l0_0.length c0_0, .int .i64 a0_1], .int .i64 a1] w fun e w' => e = .returned (.int .i64 r) ∧ Below w.heap.size w w' := by
 have hu64 := Try.underlying64
 have HR0_0 := am hr0_0
 have HC0_0 := am hc0_0
 clear hr0_0 hc0_0
 have HB := am (Below.refl w.heap.size w)
 have H : ((laws_szInt64S.f l0_0 a1).bind fun t102 => (if t102 < 0 then (some (-1)) else (some t102))) = some r := h
 clear h
 replace H := Option.bind_eq_some_iff.mp H
 obtain ⟨t102, A30, H⟩ := H
 replace H : (if t102 < 0 then (some (-1)) else (some t102)) = some r := H
 have A3 := am A30
 clear A30
 by_cases c4 : t102 < 0
 · rw [if_pos c4] at H
   have c4b0 : decide (t102 < 0) = true := decide_eq_true c4
   clear c4
   obtain rfl := Option.some.inj H
   go_enter Try.func47, Try.ntmps47
   go_wp2_with (first | ((with_reducible refine gate_dst (N := 2) rfl ?_); refine box_event ?hg (N := 2) ?hd (cs := #[.slice A0_0 l0_0.length c0_0, .int .i64 a0_1]) (t := 64) ?hr ?_; (case hd => rfl); (case hg => rfl); (case hr => (go_simp; done)); intro gb101 hg w5 hbox hb; have n0_ := am (below_step (by repeat ((with_reducible exact HB.out))) hb); have n1_ := am (hbox); have n2_ := am ((by rw [hg]; exact (below_size (by repeat ((with_reducible exact HB.out)))) : w.heap.size ≤ gb101)); have n3_ := am ((by rw [hg]; exact (below_size (by repeat ((with_reducible exact HB.out)))) : w.heap.size ≤ gb101)); clear HB; have HB := n0_; have BK101 := n1_; have GW101 := n2_; have GE101 := n3_; clear n0_ n1_ n2_ n3_; clear hb hbox hg; have hcz6_0 : w5.cell? ⟨gb101, 0, none⟩ = some (.slice A0_0 l0_0.length c0_0) := (blk_cell BK101.out 0).trans rfl; have hcz6_1 : w5.cell? ⟨gb101, 1, none⟩ = some (.int .i64 a0_1) := (blk_cell BK101.out 1).trans rfl; have hfz6_0 := blk_frozen BK101.out 0; have hfz6_1 := blk_frozen BK101.out 1) | ((with_reducible refine gate_callee (f := 74) rfl ?_); refine goesL_ (some 8) rfl rfl Try.func74 (by kernel_rfl) rfl #[.slice A0_0 l0_0.length c0_0, .int .i64 a1] rfl (by (try simp only [List.map_toArray, List.map_cons, List.map_nil]); rfl) ?_; (with_reducible refine (laws_szInt64S.calls _ _ l0_0 a1 t102 _ ?side1 ?side2 A3.out).mono ?_); (case side1 => repeat (exact (Kd.C_below HR0_0.out HB.out))); (case side2 => exact HC0_0.out); rintro e w' ⟨rfl, ⟨nd, rfl⟩⟩; refine ⟨_, rfl, ?_⟩))
   go_ret
   exact ⟨by rfl, by repeat ((with_reducible first | exact HB.out | apply pw_below_drewN))⟩
 · rw [if_neg c4] at H
   have c4b0 : decide (t102 < 0) = false := decide_eq_false c4
   clear c4
   obtain rfl := Option.some.inj H
   go_enter Try.func47, Try.ntmps47
   go_wp2_with (first | ((with_reducible refine gate_dst (N := 2) rfl ?_); refine box_event ?hg (N := 2) ?hd (cs := #[.slice A0_0 l0_0.length c0_0, .int .i64 a0_1]) (t := 64) ?hr ?_; (case hd => rfl); (case hg => rfl); (case hr => (go_simp; done)); intro gb101 hg w7 hbox hb; have n0_ := am (below_step (by repeat ((with_reducible exact HB.out))) hb); have n1_ := am (hbox); have n2_ := am ((by rw [hg]; exact (below_size (by repeat ((with_reducible exact HB.out)))) : w.heap.size ≤ gb101)); have n3_ := am ((by rw [hg]; exact (below_size (by repeat ((with_reducible exact HB.out)))) : w.heap.size ≤ gb101)); clear HB; have HB := n0_; have BK101 := n1_; have GW101 := n2_; have GE101 := n3_; clear n0_ n1_ n2_ n3_; clear hb hbox hg; have hcz8_0 : w7.cell? ⟨gb101, 0, none⟩ = some (.slice A0_0 l0_0.length c0_0) := (blk_cell BK101.out 0).trans rfl; have hcz8_1 : w7.cell? ⟨gb101, 1, none⟩ = some (.int .i64 a0_1) := (blk_cell BK101.out 1).trans rfl; have hfz8_0 := blk_frozen BK101.out 0; have hfz8_1 := blk_frozen BK101.out 1) | ((with_reducible refine gate_callee (f := 74) rfl ?_); refine goesL_ (some 8) rfl rfl Try.func74 (by kernel_rfl) rfl #[.slice A0_0 l0_0.length c0_0, .int .i64 a1] rfl (by (try simp only [List.map_toArray, List.map_cons, List.map_nil]); rfl) ?_; (with_reducible refine (laws_szInt64S.calls _ _ l0_0 a1 t102 _ ?side1 ?side2 A3.out).mono ?_); (case side1 => repeat (exact (Kd.C_below HR0_0.out HB.out))); (case side2 => exact HC0_0.out); rintro e w' ⟨rfl, ⟨nd, rfl⟩⟩; refine ⟨_, rfl, ?_⟩))
   go_ret
   exact ⟨by rfl, by repeat ((with_reducible first | exact HB.out | apply pw_below_drewN))⟩
def laws_szTermS.l0 : Nat → List (S64) → Int → Int → Option (Int)
 | 0, _, _, _ => none
 | k + 1, x0, x1, x5 => if x5 < (x0.length : Int) then (if 0 ≤ x5 then ((laws_szTerm.f ((rd_T64 x0 x5).f0) ((rd_T64 x0 x5).f1) x1).bind fun t104 => (if t104 < 0 then (some (-1)) else (laws_szTermS.l0 k x0 t104 (wrap64 (x5 + 1))))) else (none)) else (some x1)
def laws_szTermS.f (k : Nat) (l0 : List (S64)) (a1 : Int) : Option (Int) := if (wrap64 (a1 - (l0.length : Int))) < 0 then (some (-1)) else (laws_szTermS.l0 k l0 (wrap64 (a1 - (l0.length : Int))) 0)
theorem laws_szTermS.calls (k : Nat) (A0 : Option Addr) (c0 : Nat) (l0 : List (S64)) (a1 : Int) (r : Int) (w : World) (hr0 : Kd.C k64 w A0 l0.length l0) (hc0 : l0.length ≤ c0) (h : laws_szTermS.f k l0 a1 = some r) :
 Calls Try.prog 17 #[.slice A0 l0.length c0, .int .i64 a1] w fun e w' => e = .returned (.int .i64 r) ∧ Below w.heap.size w w' := by
 have hu64 := Try.underlying64
 have HR0 := am hr0
 have HC0 := am hc0
 clear hr0 hc0
 have HB := am (Below.refl w.heap.size w)
 have H : (if (wrap64 (a1 - (l0.length : Int))) < 0 then (some (-1)) else (laws_szTermS.l0 k l0 (wrap64 (a1 - (l0.length : Int))) 0)) = some r := h
 clear h
 by_cases c3 : (wrap64 (a1 - (l0.length : Int))) < 0
 · rw [if_pos c3] at H
   have c3b0 : decide ((wrap64 (a1 - (l0.length : Int))) < 0) = true := decide_eq_true c3
   clear c3
   obtain rfl := Option.some.inj H
   go_enter Try.func17, Try.ntmps17
   go_wp2
   go_ret
   exact ⟨by rfl, by repeat ((with_reducible exact HB.out))⟩
 · rw [if_neg c3] at H
   have c3b0 : decide ((wrap64 (a1 - (l0.length : Int))) < 0) = false := decide_eq_false c3
   clear c3
   have H' := am H
   clear H
   go_enter Try.func17, Try.ntmps17
   go_wp2
   go_loopg [1, 5] k (fun kq v1 v5 w' => ∃ (x1_1 : Int) (x5_1 : Int), v1 = .int .i64 x1_1 ∧ v5 = .int .i64 x5_1 ∧ Aside0 (laws_szTermS.l0 kq l0 x1_1 x5_1 = some r) ∧ Aside0 (kq ≤ k) ∧ Aside0 (Below w.heap.size w w'))
   case atStart => exact ⟨(wrap64 (a1 - (l0.length : Int))), (0), (by rfl), (by rfl), H', ⟨Nat.le_refl _⟩, ⟨by repeat ((with_reducible exact HB.out))⟩⟩
   case round =>
    clear H'
    try clear c1
    try clear p2
    try clear c3
    try clear c3b0
    obtain ⟨x1_1, x5_1, rfl, rfl, HA, HK1, HB⟩ := hrel
    cases gk with
    | zero => exact absurd HA.out (by simp [laws_szTermS.l0])
    | succ k1 =>
     have H := HA.out
     clear HA
     simp only [laws_szTermS.l0] at H
     by_cases c4 : x5_1 < (l0.length : Int)
     · rw [if_pos c4] at H
       have c4b0 : decide (x5_1 < (l0.length : Int)) = true := decide_eq_true c4
       clear c4
       by_cases c5 : 0 ≤ x5_1
       · rw [if_pos c5] at H
         have c5b0 : decide (0 ≤ x5_1) = true := decide_eq_true c5
         clear c5
         replace H := Option.bind_eq_some_iff.mp H
         obtain ⟨t104, A60, H⟩ := H
         replace H : (if t104 < 0 then (some (-1)) else (laws_szTermS.l0 k1 l0 t104 (wrap64 (x5_1 + 1)))) = some r := H
         have A6 := am A60
         clear A60
         by_cases c7 : t104 < 0
         · rw [if_pos c7] at H
           have c7b0 : decide (t104 < 0) = true := decide_eq_true c7
           clear c7
           obtain rfl := Option.some.inj H
           have p103 : 0 ≤ (x5_1 : Int) := of_decide_eq_true (by (with_reducible assumption))
           have q103 : x5_1 < (l0.length : Int) := of_decide_eq_true (by (with_reducible assumption))
           obtain ⟨ad103, A103_0, c103_0, e103, hx103_0, hx103_1, hl103_0, hi103_0⟩ := at_T64 HR0.out x5_1 p103 q103
           cases e103
           replace hx103_0 := (HB.out.cell (World.block_lt_of_cell? w _ hx103_0)).trans hx103_0
           replace hx103_1 := (HB.out.cell (World.block_lt_of_cell? w _ hx103_1)).trans hx103_1
           have HR103_0 := am hi103_0
           have HC103_0 := am hl103_0
           clear hi103_0 hl103_0
           replace p103 := eq_true p103
           replace q103 := eq_true q103
           go_wp2_with (((with_reducible refine gate_callee (f := 47) rfl ?_); refine goesL_ (some 23) rfl rfl Try.func47 (by kernel_rfl) rfl #[.agg #[.slice A103_0 ((rd_T64 l0 x5_1).f0).length c103_0, .int .i64 ((rd_T64 l0 x5_1).f1)], .int .i64 x1_1] rfl (by (try simp only [List.map_toArray, List.map_cons, List.map_nil]); rfl) ?_; (with_reducible refine (laws_szTerm.calls _ _ ((rd_T64 l0 x5_1).f0) ((rd_T64 l0 x5_1).f1) x1_1 t104 _ ?side1 ?side2 A6.out).mono ?_); (case side1 => repeat (exact (Kd.C_below HR103_0.out HB.out))); (case side2 => exact HC103_0.out); rintro e w8 ⟨rfl, hb⟩; refine ⟨_, rfl, ?_⟩; have n0_ := am (below_step (by repeat ((with_reducible exact HB.out))) hb); clear HB; have HB := n0_; clear n0_; (try clear hb); (try clear hb2); (try clear hk); (try clear hi)))
           go_ret
           exact ⟨by rfl, by repeat ((with_reducible exact HB.out))⟩
         · rw [if_neg c7] at H
           have c7b0 : decide (t104 < 0) = false := decide_eq_false c7
           clear c7
           have H' := am H
           clear H
           have p103 : 0 ≤ (x5_1 : Int) := of_decide_eq_true (by (with_reducible assumption))
           have q103 : x5_1 < (l0.length : Int) := of_decide_eq_true (by (with_reducible assumption))
           obtain ⟨ad103, A103_0, c103_0, e103, hx103_0, hx103_1, hl103_0, hi103_0⟩ := at_T64 HR0.out x5_1 p103 q103
           cases e103
           replace hx103_0 := (HB.out.cell (World.block_lt_of_cell? w _ hx103_0)).trans hx103_0
           replace hx103_1 := (HB.out.cell (World.block_lt_of_cell? w _ hx103_1)).trans hx103_1
           have HR103_0 := am hi103_0
           have HC103_0 := am hl103_0
           clear hi103_0 hl103_0
           replace p103 := eq_true p103
           replace q103 := eq_true q103
           go_wp2_with (((with_reducible refine gate_callee (f := 47) rfl ?_); refine goesL_ (some 23) rfl rfl Try.func47 (by kernel_rfl) rfl #[.agg #[.slice A103_0 ((rd_T64 l0 x5_1).f0).length c103_0, .int .i64 ((rd_T64 l0 x5_1).f1)], .int .i64 x1_1] rfl (by (try simp only [List.map_toArray, List.map_cons, List.map_nil]); rfl) ?_; (with_reducible refine (laws_szTerm.calls _ _ ((rd_T64 l0 x5_1).f0) ((rd_T64 l0 x5_1).f1) x1_1 t104 _ ?side1 ?side2 A6.out).mono ?_); (case side1 => repeat (exact (Kd.C_below HR103_0.out HB.out))); (case side2 => exact HC103_0.out); rintro e w9 ⟨rfl, hb⟩; refine ⟨_, rfl, ?_⟩; have n0_ := am (below_step (by repeat ((with_reducible exact HB.out))) hb); clear HB; have HB := n0_; clear n0_; (try clear hb); (try clear hb2); (try clear hk); (try clear hi)))
           go_roundg k1
           case measure => have := HK1.out; omega
           case rel => exact ⟨(t104), (wrap64 (x5_1 + 1)), (by rfl), (by rfl), H', ⟨by have := HK1.out; omega⟩, ⟨by repeat ((with_reducible exact HB.out))⟩⟩
       · rw [if_neg c5] at H
         exact absurd H (by simp)
     · rw [if_neg c4] at H
       have c4b0 : decide (x5_1 < (l0.length : Int)) = false := decide_eq_false c4
       clear c4
       obtain rfl := Option.some.inj H
       go_wp2
       go_ret
       exact ⟨by rfl, by repeat ((with_reducible exact HB.out))⟩
def laws_szSum.f (k : Nat) (a0_0 : Int) (l0_1 : List (S64)) (a1 : Int) : Option (Int) := (laws_szTermS.f k l0_1 a1).bind fun t106 => (if t106 < 0 then (some (-1)) else (some t106))
theorem laws_szSum.calls (k : Nat) (a0_0 : Int) (A0_1 : Option Addr) (c0_1 : Nat) (l0_1 : List (S64)) (a1 : Int) (r : Int) (w : World) (hr0_1 : Kd.C k64 w A0_1 l0_1.length l0_1) (hc0_1 : l0_1.length ≤ c0_1) (h : laws_szSum.f k a0_0 l0_1 a1 = some r) :
 Calls Try.prog 6 #[.agg #[.int .i64 a0_0, .slice A0_1 l0_1.length c0_1], .int .i64 a1] w fun e w' => e = .returned (.int .i64 r) ∧ Below w.heap.size w w' := by
 have hu24 := Try.underlying24
 have HR0_1 := am hr0_1
 have HC0_1 := am hc0_1
 clear hr0_1 hc0_1
 have HB := am (Below.refl w.heap.size w)
 have H : ((laws_szTermS.f k l0_1 a1).bind fun t106 => (if t106 < 0 then (some (-1)) else (some t106))) = some r := h
 clear h
 replace H := Option.bind_eq_some_iff.mp H
 obtain ⟨t106, A30, H⟩ := H
 replace H : (if t106 < 0 then (some (-1)) else (some t106)) = some r := H
 have A3 := am A30
 clear A30
 by_cases c4 : t106 < 0
 · rw [if_pos c4] at H
   have c4b0 : decide (t106 < 0) = true := decide_eq_true c4
   clear c4
   obtain rfl := Option.some.inj H
   go_enter Try.func6, Try.ntmps6
   go_wp2_with (first | ((with_reducible refine gate_dst (N := 2) rfl ?_); refine box_event ?hg (N := 2) ?hd (cs := #[.int .i64 a0_0, .slice A0_1 l0_1.length c0_1]) (t := 24) ?hr ?_; (case hd => rfl); (case hg => rfl); (case hr => (go_simp; done)); intro gb105 hg w5 hbox hb; have n0_ := am (below_step (by repeat ((with_reducible exact HB.out))) hb); have n1_ := am (hbox); have n2_ := am ((by rw [hg]; exact (below_size (by repeat ((with_reducible exact HB.out)))) : w.heap.size ≤ gb105)); have n3_ := am ((by rw [hg]; exact (below_size (by repeat ((with_reducible exact HB.out)))) : w.heap.size ≤ gb105)); clear HB; have HB := n0_; have BK105 := n1_; have GW105 := n2_; have GE105 := n3_; clear n0_ n1_ n2_ n3_; clear hb hbox hg; have hcz6_0 : w5.cell? ⟨gb105, 0, none⟩ = some (.int .i64 a0_0) := (blk_cell BK105.out 0).trans rfl; have hcz6_1 : w5.cell? ⟨gb105, 1, none⟩ = some (.slice A0_1 l0_1.length c0_1) := (blk_cell BK105.out 1).trans rfl; have hfz6_0 := blk_frozen BK105.out 0; have hfz6_1 := blk_frozen BK105.out 1) | ((with_reducible refine gate_callee (f := 17) rfl ?_); refine goesL_ (some 8) rfl rfl Try.func17 (by kernel_rfl) rfl #[.slice A0_1 l0_1.length c0_1, .int .i64 a1] rfl (by (try simp only [List.map_toArray, List.map_cons, List.map_nil]); rfl) ?_; (with_reducible refine (laws_szTermS.calls k _ _ l0_1 a1 t106 _ ?side1 ?side2 A3.out).mono ?_); (case side1 => repeat (exact (Kd.C_below HR0_1.out HB.out))); (case side2 => exact HC0_1.out); rintro e w7 ⟨rfl, hb⟩; refine ⟨_, rfl, ?_⟩; have n0_ := am (blk_below (g := gb105) (o := .cells #[.int .i64 a0_0, .slice A0_1 l0_1.length c0_1] 24 (0, 0)) (by exact BK105.out) hb); have n1_ := am (below_step (by repeat ((with_reducible exact HB.out))) hb); clear BK105; clear HB; have BK105 := n0_; have HB := n1_; clear n0_ n1_; (try clear hb); (try clear hb2); (try clear hk); (try clear hi)))
   go_ret
   exact ⟨by rfl, by repeat ((with_reducible exact HB.out))⟩
 · rw [if_neg c4] at H
   have c4b0 : decide (t106 < 0) = false := decide_eq_false c4
   clear c4
   obtain rfl := Option.some.inj H
   go_enter Try.func6, Try.ntmps6
   go_wp2_with (first | ((with_reducible refine gate_dst (N := 2) rfl ?_); refine box_event ?hg (N := 2) ?hd (cs := #[.int .i64 a0_0, .slice A0_1 l0_1.length c0_1]) (t := 24) ?hr ?_; (case hd => rfl); (case hg => rfl); (case hr => (go_simp; done)); intro gb105 hg w8 hbox hb; have n0_ := am (below_step (by repeat ((with_reducible exact HB.out))) hb); have n1_ := am (hbox); have n2_ := am ((by rw [hg]; exact (below_size (by repeat ((with_reducible exact HB.out)))) : w.heap.size ≤ gb105)); have n3_ := am ((by rw [hg]; exact (below_size (by repeat ((with_reducible exact HB.out)))) : w.heap.size ≤ gb105)); clear HB; have HB := n0_; have BK105 := n1_; have GW105 := n2_; have GE105 := n3_; clear n0_ n1_ n2_ n3_; clear hb hbox hg; have hcz9_0 : w8.cell? ⟨gb105, 0, none⟩ = some (.int .i64 a0_0) := (blk_cell BK105.out 0).trans rfl; have hcz9_1 : w8.cell? ⟨gb105, 1, none⟩ = some (.slice A0_1 l0_1.length c0_1) := (blk_cell BK105.out 1).trans rfl; have hfz9_0 := blk_frozen BK105.out 0; have hfz9_1 := blk_frozen BK105.out 1) | ((with_reducible refine gate_callee (f := 17) rfl ?_); refine goesL_ (some 8) rfl rfl Try.func17 (by kernel_rfl) rfl #[.slice A0_1 l0_1.length c0_1, .int .i64 a1] rfl (by (try simp only [List.map_toArray, List.map_cons, List.map_nil]); rfl) ?_; (with_reducible refine (laws_szTermS.calls k _ _ l0_1 a1 t106 _ ?side1 ?side2 A3.out).mono ?_); (case side1 => repeat (exact (Kd.C_below HR0_1.out HB.out))); (case side2 => exact HC0_1.out); rintro e w10 ⟨rfl, hb⟩; refine ⟨_, rfl, ?_⟩; have n0_ := am (blk_below (g := gb105) (o := .cells #[.int .i64 a0_0, .slice A0_1 l0_1.length c0_1] 24 (0, 0)) (by exact BK105.out) hb); have n1_ := am (below_step (by repeat ((with_reducible exact HB.out))) hb); clear BK105; clear HB; have BK105 := n0_; have HB := n1_; clear n0_ n1_; (try clear hb); (try clear hb2); (try clear hk); (try clear hi)))
   go_ret
   exact ⟨by rfl, by repeat ((with_reducible exact HB.out))⟩
def spec_l01In.f (a0 : Int) (a1 : Int) (a2 : Int) : Option (Bool) := if a0 ≥ a1 then (some (decide (a0 ≤ a2))) else (some false)
theorem spec_l01In.calls (a0 : Int) (a1 : Int) (a2 : Int) (r : Bool) (w : World) (h : spec_l01In.f a0 a1 a2 = some r) :
 Calls Try.prog 67 #[.int .i64 a0, .int .i64 a1, .int .i64 a2] w fun e w' => e = .returned (.bool r) ∧ Drawn0 w w' := by
 have H : (if a0 ≥ a1 then (some (decide (a0 ≤ a2))) else (some false)) = some r := h
 clear h
 by_cases c4 : a0 ≥ a1
 · rw [if_pos c4] at H
   have c4b0 : decide (a1 ≤ a0) = true := decide_eq_true c4
   clear c4
   obtain rfl := Option.some.inj H
   go_enter Try.func67, Try.ntmps67
   go_wp2
   go_ret
   exact ⟨by rfl, by repeat (exact Drawn0.refl _)⟩
 · rw [if_neg c4] at H
   have c4b0 : decide (a1 ≤ a0) = false := decide_eq_false c4
   clear c4
   obtain rfl := Option.some.inj H
   go_enter Try.func67, Try.ntmps67
   go_wp2
   go_ret
   exact ⟨by rfl, by repeat (exact Drawn0.refl _)⟩
def spec_l01Before.l0 : Nat → List Int → List Int → Int → Option (Bool)
 | 0, _, _, _ => none
 | k + 1, x0, x1, x5 => if x5 < (x0.length : Int) then (if 0 ≤ x5 then (if x5 < (x1.length : Int) then (if (rd x0 x5) = (rd x1 x5) then (spec_l01Before.l0 k x0 x1 (wrap64 (x5 + 1))) else (some (decide ((rd x0 x5) < (rd x1 x5))))) else (none)) else (none)) else (some false)
def spec_l01Before.f (k : Nat) (l0 : List Int) (l1 : List Int) : Option (Bool) := if (l0.length : Int) = (l1.length : Int) then (spec_l01Before.l0 k l0 l1 0) else (some (decide ((l0.length : Int) < (l1.length : Int))))
theorem spec_l01Before.calls (k : Nat) (A0 : Option Addr) (c0 : Nat) (l0 : List Int) (A1 : Option Addr) (c1 : Nat) (l1 : List Int) (r : Bool) (w : World) (hr0 : Kd.C (Kd.int .i64) w A0 l0.length l0) (hc0 : l0.length ≤ c0) (hr1 : Kd.C (Kd.int .i64) w A1 l1.length l1) (hc1 : l1.length ≤ c1) (h : spec_l01Before.f k l0 l1 = some r) :
 Calls Try.prog 70 #[.slice A0 l0.length c0, .slice A1 l1.length c1] w fun e w' => e = .returned (.bool r) ∧ Drawn0 w w' := by
 have HR0 := am hr0
 have HC0 := am hc0
 clear hr0 hc0
 have HR1 := am hr1
 have HC1 := am hc1
 clear hr1 hc1
 have H : (if (l0.length : Int) = (l1.length : Int) then (spec_l01Before.l0 k l0 l1 0) else (some (decide ((l0.length : Int) < (l1.length : Int))))) = some r := h
 clear h
 by_cases c3 : (l0.length : Int) = (l1.length : Int)
 · rw [if_pos c3] at H
   have c3b0 : ((l0.length : Int) == (l1.length : Int)) = true := beq_iff_eq.mpr c3
   have c3b1 : ((l0.length : Int) != (l1.length : Int)) = false := bne_eq_false_iff_eq.mpr c3
   have c3b2 : (l0.length == l1.length) = true := by (simp at c3 ⊢; omega)
   clear c3
   have H' := am H
   clear H
   go_enter Try.func70, Try.ntmps70
   go_wp2
   repeat (go_quiet (fail); try go_wp2)
   go_loopg [5] k (fun kq v5 w' => ∃ (x5_1 : Int), v5 = .int .i64 x5_1 ∧ Aside0 (spec_l01Before.l0 kq l0 l1 x5_1 = some r) ∧ Aside0 (kq ≤ k) ∧ Drawn0 w w')
   case atStart => exact ⟨(0), (by rfl), H', ⟨Nat.le_refl _⟩, by repeat (exact Drawn0.refl _)⟩
   case round =>
    clear H'
    try clear c1
    try clear p2
    try clear c3
    try clear c3b0
    try clear c3b1
    try clear c3b2
    obtain ⟨x5_1, rfl, HA, HK1, ⟨m1, rfl⟩⟩ := hrel
    cases gk with
    | zero => exact absurd HA.out (by simp [spec_l01Before.l0])
    | succ k1 =>
     have H := HA.out
     clear HA
     simp only [spec_l01Before.l0] at H
     by_cases c4 : x5_1 < (l0.length : Int)
     · rw [if_pos c4] at H
       have c4b0 : decide (x5_1 < (l0.length : Int)) = true := decide_eq_true c4
       clear c4
       by_cases c5 : 0 ≤ x5_1
       · rw [if_pos c5] at H
         have c5b0 : decide (0 ≤ x5_1) = true := decide_eq_true c5
         clear c5
         by_cases c6 : x5_1 < (l1.length : Int)
         · rw [if_pos c6] at H
           have c6b0 : decide (x5_1 < (l1.length : Int)) = true := decide_eq_true c6
           clear c6
           by_cases c7 : (rd l0 x5_1) = (rd l1 x5_1)
           · rw [if_pos c7] at H
             have c7b0 : ((rd l0 x5_1) == (rd l1 x5_1)) = true := beq_iff_eq.mpr c7
             have c7b1 : ((rd l0 x5_1) != (rd l1 x5_1)) = false := bne_eq_false_iff_eq.mpr c7
             clear c7
             have H' := am H
             clear H
             have p107 : 0 ≤ (x5_1 : Int) := of_decide_eq_true (by (with_reducible assumption))
             have q107 : x5_1 < (l0.length : Int) := of_decide_eq_true (by (with_reducible assumption))
             obtain ⟨ad107, e107, hx107_0⟩ := Kd.at_int HR0.out x5_1 p107 q107
             cases e107
             replace p107 := eq_true p107
             replace q107 := eq_true q107
             have p108 : 0 ≤ (x5_1 : Int) := of_decide_eq_true (by (with_reducible assumption))
             have q108 : x5_1 < (l1.length : Int) := of_decide_eq_true (by (with_reducible assumption))
             obtain ⟨ad108, e108, hx108_0⟩ := Kd.at_int HR1.out x5_1 p108 q108
             cases e108
             replace p108 := eq_true p108
             replace q108 := eq_true q108
             go_wp2
             repeat (go_quiet (fail); try go_wp2)
             go_roundg k1
             case measure => have := HK1.out; omega
             case rel => exact ⟨(wrap64 (x5_1 + 1)), (by rfl), H', ⟨by have := HK1.out; omega⟩, by repeat (first | exact Drawn0.refl _ | apply Drawn0.step)⟩
           · rw [if_neg c7] at H
             have c7b0 : ((rd l0 x5_1) == (rd l1 x5_1)) = false := beq_eq_false_iff_ne.mpr c7
             have c7b1 : ((rd l0 x5_1) != (rd l1 x5_1)) = true := bne_iff_ne.mpr c7
             obtain rfl := Option.some.inj H
             have p107 : 0 ≤ (x5_1 : Int) := of_decide_eq_true (by (with_reducible assumption))
             have q107 : x5_1 < (l0.length : Int) := of_decide_eq_true (by (with_reducible assumption))
             obtain ⟨ad107, e107, hx107_0⟩ := Kd.at_int HR0.out x5_1 p107 q107
             cases e107
             replace p107 := eq_true p107
             replace q107 := eq_true q107
             have p108 : 0 ≤ (x5_1 : Int) := of_decide_eq_true (by (with_reducible assumption))
             have q108 : x5_1 < (l1.length : Int) := of_decide_eq_true (by (with_reducible assumption))
             obtain ⟨ad108, e108, hx108_0⟩ := Kd.at_int HR1.out x5_1 p108 q108
             cases e108
             replace p108 := eq_true p108
             replace q108 := eq_true q108
             have p109 : 0 ≤ (x5_1 : Int) := of_decide_eq_true (by (with_reducible assumption))
             have q109 : x5_1 < (l0.length : Int) := of_decide_eq_true (by (with_reducible assumption))
             obtain ⟨ad109, e109, hx109_0⟩ := Kd.at_int HR0.out x5_1 p109 q109
             obtain rfl : ad107 = ad109 := (by injection e109)
             replace p109 := eq_true p109
             replace q109 := eq_true q109
             have p110 : 0 ≤ (x5_1 : Int) := of_decide_eq_true (by (with_reducible assumption))
             have q110 : x5_1 < (l1.length : Int) := of_decide_eq_true (by (with_reducible assumption))
             obtain ⟨ad110, e110, hx110_0⟩ := Kd.at_int HR1.out x5_1 p110 q110
             obtain rfl : ad108 = ad110 := (by injection e110)
             replace p110 := eq_true p110
             replace q110 := eq_true q110
             go_wp2
             repeat (go_quiet (fail); try go_wp2)
             go_ret
             exact ⟨by rfl, by repeat (first | exact Drawn0.refl _ | apply Drawn0.step)⟩
         · rw [if_neg c6] at H
           exact absurd H (by simp)
       · rw [if_neg c5] at H
         exact absurd H (by simp)
     · rw [if_neg c4] at H
       have c4b0 : decide (x5_1 < (l0.length : Int)) = false := decide_eq_false c4
       clear c4
       obtain rfl := Option.some.inj H
       go_wp2
       repeat (go_quiet (fail); try go_wp2)
       go_ret
       exact ⟨by rfl, by repeat (first | exact Drawn0.refl _ | apply Drawn0.step)⟩
 · rw [if_neg c3] at H
   have c3b0 : ((l0.length : Int) == (l1.length : Int)) = false := beq_eq_false_iff_ne.mpr c3
   have c3b1 : ((l0.length : Int) != (l1.length : Int)) = true := bne_iff_ne.mpr c3
   have c3b2 : (l0.length == l1.length) = false := by (simp at c3 ⊢; omega)
   obtain rfl := Option.some.inj H
   go_enter Try.func70, Try.ntmps70
   go_wp2
   repeat (go_quiet (fail); try go_wp2)
   go_ret
   exact ⟨by rfl, by repeat (exact Drawn0.refl _)⟩
def spec_l03Prime.f (a0 : Int) : Option (Bool) := if a0 = 2 then (some true) else (if a0 = 3 then (some true) else (if a0 = 5 then (some true) else (if a0 = 7 then (some true) else (if a0 = 11 then (some true) else (some (a0 == 13))))))
theorem spec_l03Prime.calls (a0 : Int) (r : Bool) (w : World) (h : spec_l03Prime.f a0 = some r) :
 Calls Try.prog 75 #[.int .i64 a0] w fun e w' => e = .returned (.bool r) ∧ Drawn0 w w' := by
 have H : (if a0 = 2 then (some true) else (if a0 = 3 then (some true) else (if a0 = 5 then (some true) else (if a0 = 7 then (some true) else (if a0 = 11 then (some true) else (some (a0 == 13))))))) = some r := h
 clear h
 by_cases c2 : a0 = 2
 · rw [if_pos c2] at H
   have c2b0 : (a0 == 2) = true := beq_iff_eq.mpr c2
   have c2b1 : (a0 != 2) = false := bne_eq_false_iff_eq.mpr c2
   clear c2
   obtain rfl := Option.some.inj H
   go_enter Try.func75, Try.ntmps75
   go_wp2
   go_ret
   exact ⟨by rfl, by repeat (exact Drawn0.refl _)⟩
 · rw [if_neg c2] at H
   have c2b0 : (a0 == 2) = false := beq_eq_false_iff_ne.mpr c2
   have c2b1 : (a0 != 2) = true := bne_iff_ne.mpr c2
   by_cases c3 : a0 = 3
   · rw [if_pos c3] at H
     have c3b0 : (a0 == 3) = true := beq_iff_eq.mpr c3
     have c3b1 : (a0 != 3) = false := bne_eq_false_iff_eq.mpr c3
     clear c3
     obtain rfl := Option.some.inj H
     go_enter Try.func75, Try.ntmps75
     go_wp2
     go_ret
     exact ⟨by rfl, by repeat (exact Drawn0.refl _)⟩
   · rw [if_neg c3] at H
     have c3b0 : (a0 == 3) = false := beq_eq_false_iff_ne.mpr c3
     have c3b1 : (a0 != 3) = true := bne_iff_ne.mpr c3
     by_cases c4 : a0 = 5
     · rw [if_pos c4] at H
       have c4b0 : (a0 == 5) = true := beq_iff_eq.mpr c4
       have c4b1 : (a0 != 5) = false := bne_eq_false_iff_eq.mpr c4
       clear c4
       obtain rfl := Option.some.inj H
       go_enter Try.func75, Try.ntmps75
       go_wp2
       go_ret
       exact ⟨by rfl, by repeat (exact Drawn0.refl _)⟩
     · rw [if_neg c4] at H
       have c4b0 : (a0 == 5) = false := beq_eq_false_iff_ne.mpr c4
       have c4b1 : (a0 != 5) = true := bne_iff_ne.mpr c4
       by_cases c5 : a0 = 7
       · rw [if_pos c5] at H
         have c5b0 : (a0 == 7) = true := beq_iff_eq.mpr c5
         have c5b1 : (a0 != 7) = false := bne_eq_false_iff_eq.mpr c5
         clear c5
         obtain rfl := Option.some.inj H
         go_enter Try.func75, Try.ntmps75
         go_wp2
         go_ret
         exact ⟨by rfl, by repeat (exact Drawn0.refl _)⟩
       · rw [if_neg c5] at H
         have c5b0 : (a0 == 7) = false := beq_eq_false_iff_ne.mpr c5
         have c5b1 : (a0 != 7) = true := bne_iff_ne.mpr c5
         by_cases c6 : a0 = 11
         · rw [if_pos c6] at H
           have c6b0 : (a0 == 11) = true := beq_iff_eq.mpr c6
           have c6b1 : (a0 != 11) = false := bne_eq_false_iff_eq.mpr c6
           clear c6
           obtain rfl := Option.some.inj H
           go_enter Try.func75, Try.ntmps75
           go_wp2
           go_ret
           exact ⟨by rfl, by repeat (exact Drawn0.refl _)⟩
         · rw [if_neg c6] at H
           have c6b0 : (a0 == 11) = false := beq_eq_false_iff_ne.mpr c6
           have c6b1 : (a0 != 11) = true := bne_iff_ne.mpr c6
           obtain rfl := Option.some.inj H
           go_enter Try.func75, Try.ntmps75
           go_wp2
           go_ret
           exact ⟨by rfl, by repeat (exact Drawn0.refl _)⟩
def spec_l01Same.l0 : Nat → List Int → List Int → Int → Option (Bool)
 | 0, _, _, _ => none
 | k + 1, x0, x1, x5 => if x5 < (x0.length : Int) then (if 0 ≤ x5 then (if x5 < (x1.length : Int) then (if (rd x0 x5) = (rd x1 x5) then (spec_l01Same.l0 k x0 x1 (wrap64 (x5 + 1))) else (some false)) else (none)) else (none)) else (some true)
def spec_l01Same.f (k : Nat) (l0 : List Int) (l1 : List Int) : Option (Bool) := if (l0.length : Int) = (l1.length : Int) then (spec_l01Same.l0 k l0 l1 0) else (some false)
theorem spec_l01Same.calls (k : Nat) (A0 : Option Addr) (c0 : Nat) (l0 : List Int) (A1 : Option Addr) (c1 : Nat) (l1 : List Int) (r : Bool) (w : World) (hr0 : Kd.C (Kd.int .i64) w A0 l0.length l0) (hc0 : l0.length ≤ c0) (hr1 : Kd.C (Kd.int .i64) w A1 l1.length l1) (hc1 : l1.length ≤ c1) (h : spec_l01Same.f k l0 l1 = some r) :
 Calls Try.prog 68 #[.slice A0 l0.length c0, .slice A1 l1.length c1] w fun e w' => e = .returned (.bool r) ∧ Drawn0 w w' := by
 have HR0 := am hr0
 have HC0 := am hc0
 clear hr0 hc0
 have HR1 := am hr1
 have HC1 := am hc1
 clear hr1 hc1
 have H : (if (l0.length : Int) = (l1.length : Int) then (spec_l01Same.l0 k l0 l1 0) else (some false)) = some r := h
 clear h
 by_cases c3 : (l0.length : Int) = (l1.length : Int)
 · rw [if_pos c3] at H
   have c3b0 : ((l0.length : Int) == (l1.length : Int)) = true := beq_iff_eq.mpr c3
   have c3b1 : ((l0.length : Int) != (l1.length : Int)) = false := bne_eq_false_iff_eq.mpr c3
   have c3b2 : (l0.length == l1.length) = true := by (simp at c3 ⊢; omega)
   clear c3
   have H' := am H
   clear H
   go_enter Try.func68, Try.ntmps68
   go_wp2
   repeat (go_quiet (fail); try go_wp2)
   go_loopg [5] k (fun kq v5 w' => ∃ (x5_1 : Int), v5 = .int .i64 x5_1 ∧ Aside0 (spec_l01Same.l0 kq l0 l1 x5_1 = some r) ∧ Aside0 (kq ≤ k) ∧ Drawn0 w w')
   case atStart => exact ⟨(0), (by rfl), H', ⟨Nat.le_refl _⟩, by repeat (exact Drawn0.refl _)⟩
   case round =>
    clear H'
    try clear c1
    try clear p2
    try clear c3
    try clear c3b0
    try clear c3b1
    try clear c3b2
    obtain ⟨x5_1, rfl, HA, HK1, ⟨m1, rfl⟩⟩ := hrel
    cases gk with
    | zero => exact absurd HA.out (by simp [spec_l01Same.l0])
    | succ k1 =>
     have H := HA.out
     clear HA
     simp only [spec_l01Same.l0] at H
     by_cases c4 : x5_1 < (l0.length : Int)
     · rw [if_pos c4] at H
       have c4b0 : decide (x5_1 < (l0.length : Int)) = true := decide_eq_true c4
       clear c4
       by_cases c5 : 0 ≤ x5_1
       · rw [if_pos c5] at H
         have c5b0 : decide (0 ≤ x5_1) = true := decide_eq_true c5
         clear c5
         by_cases c6 : x5_1 < (l1.length : Int)
         · rw [if_pos c6] at H
           have c6b0 : decide (x5_1 < (l1.length : Int)) = true := decide_eq_true c6
           clear c6
           by_cases c7 : (rd l0 x5_1) = (rd l1 x5_1)
           · rw [if_pos c7] at H
             have c7b0 : ((rd l0 x5_1) == (rd l1 x5_1)) = true := beq_iff_eq.mpr c7
             have c7b1 : ((rd l0 x5_1) != (rd l1 x5_1)) = false := bne_eq_false_iff_eq.mpr c7
             clear c7
             have H' := am H
             clear H
             have p111 : 0 ≤ (x5_1 : Int) := of_decide_eq_true (by (with_reducible assumption))
             have q111 : x5_1 < (l0.length : Int) := of_decide_eq_true (by (with_reducible assumption))
             obtain ⟨ad111, e111, hx111_0⟩ := Kd.at_int HR0.out x5_1 p111 q111
             cases e111
             replace p111 := eq_true p111
             replace q111 := eq_true q111
             have p112 : 0 ≤ (x5_1 : Int) := of_decide_eq_true (by (with_reducible assumption))
             have q112 : x5_1 < (l1.length : Int) := of_decide_eq_true (by (with_reducible assumption))
             obtain ⟨ad112, e112, hx112_0⟩ := Kd.at_int HR1.out x5_1 p112 q112
             cases e112
             replace p112 := eq_true p112
             replace q112 := eq_true q112
             go_wp2
             repeat (go_quiet (fail); try go_wp2)
             go_roundg k1
             case measure => have := HK1.out; omega
             case rel => exact ⟨(wrap64 (x5_1 + 1)), (by rfl), H', ⟨by have := HK1.out; omega⟩, by repeat (first | exact Drawn0.refl _ | apply Drawn0.step)⟩
           · rw [if_neg c7] at H
             have c7b0 : ((rd l0 x5_1) == (rd l1 x5_1)) = false := beq_eq_false_iff_ne.mpr c7
             have c7b1 : ((rd l0 x5_1) != (rd l1 x5_1)) = true := bne_iff_ne.mpr c7
             obtain rfl := Option.some.inj H
             have p111 : 0 ≤ (x5_1 : Int) := of_decide_eq_true (by (with_reducible assumption))
             have q111 : x5_1 < (l0.length : Int) := of_decide_eq_true (by (with_reducible assumption))
             obtain ⟨ad111, e111, hx111_0⟩ := Kd.at_int HR0.out x5_1 p111 q111
             cases e111
             replace p111 := eq_true p111
             replace q111 := eq_true q111
             have p112 : 0 ≤ (x5_1 : Int) := of_decide_eq_true (by (with_reducible assumption))
             have q112 : x5_1 < (l1.length : Int) := of_decide_eq_true (by (with_reducible assumption))
             obtain ⟨ad112, e112, hx112_0⟩ := Kd.at_int HR1.out x5_1 p112 q112
             cases e112
             replace p112 := eq_true p112
             replace q112 := eq_true q112
             go_wp2
             repeat (go_quiet (fail); try go_wp2)
             go_ret
             exact ⟨by rfl, by repeat (first | exact Drawn0.refl _ | apply Drawn0.step)⟩
         · rw [if_neg c6] at H
           exact absurd H (by simp)
       · rw [if_neg c5] at H
         exact absurd H (by simp)
     · rw [if_neg c4] at H
       have c4b0 : decide (x5_1 < (l0.length : Int)) = false := decide_eq_false c4
       clear c4
       obtain rfl := Option.some.inj H
       go_wp2
       repeat (go_quiet (fail); try go_wp2)
       go_ret
       exact ⟨by rfl, by repeat (first | exact Drawn0.refl _ | apply Drawn0.step)⟩
 · rw [if_neg c3] at H
   have c3b0 : ((l0.length : Int) == (l1.length : Int)) = false := beq_eq_false_iff_ne.mpr c3
   have c3b1 : ((l0.length : Int) != (l1.length : Int)) = true := bne_iff_ne.mpr c3
   have c3b2 : (l0.length == l1.length) = false := by (simp at c3 ⊢; omega)
   obtain rfl := Option.some.inj H
   go_enter Try.func68, Try.ntmps68
   go_wp2
   repeat (go_quiet (fail); try go_wp2)
   go_ret
   exact ⟨by rfl, by repeat (exact Drawn0.refl _)⟩
mutual
def spec_l01Twice.l0 : Nat → List Int → Int → Option (Bool)
 | 0, _, _ => none
 | k + 1, x0, x3 => if x3 < (x0.length : Int) then (spec_l01Twice.l1 k x0 x3 0 0) else (some true)
def spec_l01Twice.l1 : Nat → List Int → Int → Int → Int → Option (Bool)
 | 0, _, _, _, _ => none
 | k + 1, x0, x3, x4, x5 => if x5 < (x0.length : Int) then (if 0 ≤ x5 then (if 0 ≤ x3 then (if x3 < (x0.length : Int) then (if (rd x0 x5) = (rd x0 x3) then (spec_l01Twice.l1 k x0 x3 (wrap64 (x4 + 1)) (wrap64 (x5 + 1))) else (spec_l01Twice.l1 k x0 x3 x4 (wrap64 (x5 + 1)))) else (none)) else (none)) else (none)) else (if x4 = 2 then (spec_l01Twice.l0 k x0 (wrap64 (x3 + 1))) else (some false))
end
def spec_l01Twice.f (k : Nat) (l0 : List Int) : Option (Bool) := spec_l01Twice.l0 k l0 0
theorem spec_l01Twice.calls (k : Nat) (A0 : Option Addr) (c0 : Nat) (l0 : List Int) (r : Bool) (w : World) (hr0 : Kd.C (Kd.int .i64) w A0 l0.length l0) (hc0 : l0.length ≤ c0) (h : spec_l01Twice.f k l0 = some r) :
 Calls Try.prog 88 #[.slice A0 l0.length c0] w fun e w' => e = .returned (.bool r) ∧ Drawn0 w w' := by
 have HR0 := am hr0
 have HC0 := am hc0
 clear hr0 hc0
 have H : (spec_l01Twice.l0 k l0 0) = some r := h
 clear h
 have H' := am H
 clear H
 go_enter Try.func88, Try.ntmps88
 go_wp2
 repeat (go_quiet (fail); try go_wp2)
 go_loopg [3] k (fun kq v3 w' => ∃ (x3_1 : Int), v3 = .int .i64 x3_1 ∧ Aside0 (spec_l01Twice.l0 kq l0 x3_1 = some r) ∧ Aside0 (kq ≤ k) ∧ Drawn0 w w')
 case atStart => exact ⟨(0), (by rfl), H', ⟨Nat.le_refl _⟩, by repeat (exact Drawn0.refl _)⟩
 case round =>
  clear H'
  obtain ⟨x3_1, rfl, HA, HK1, ⟨m1, rfl⟩⟩ := hrel
  cases gk with
  | zero => exact absurd HA.out (by simp [spec_l01Twice.l0])
  | succ k1 =>
   have H := HA.out
   clear HA
   simp only [spec_l01Twice.l0] at H
   by_cases c2 : x3_1 < (l0.length : Int)
   · rw [if_pos c2] at H
     have c2b0 : decide (x3_1 < (l0.length : Int)) = true := decide_eq_true c2
     clear c2
     have H' := am H
     clear H
     go_wp2
     repeat (go_quiet (fail); try go_wp2)
     go_loopg [4, 5] k1 (fun kq v4 v5 w' => ∃ (x4_2 : Int) (x5_2 : Int), v4 = .int .i64 x4_2 ∧ v5 = .int .i64 x5_2 ∧ Aside0 (spec_l01Twice.l1 kq l0 x3_1 x4_2 x5_2 = some r) ∧ Aside0 (kq ≤ k1) ∧ Drawn0 w w')
     case atStart => exact ⟨(0), (0), (by rfl), (by rfl), H', ⟨Nat.le_refl _⟩, by repeat (first | exact Drawn0.refl _ | apply Drawn0.step)⟩
     case round =>
      clear H'
      try clear c2
      try clear c2b0
      try clear p2
      obtain ⟨x4_2, x5_2, rfl, rfl, HA, HK2, ⟨m2, rfl⟩⟩ := hrel
      cases gk with
      | zero => exact absurd HA.out (by simp [spec_l01Twice.l1])
      | succ k2 =>
       have H := HA.out
       clear HA
       simp only [spec_l01Twice.l1] at H
       by_cases c3 : x5_2 < (l0.length : Int)
       · rw [if_pos c3] at H
         have c3b0 : decide (x5_2 < (l0.length : Int)) = true := decide_eq_true c3
         clear c3
         by_cases c4 : 0 ≤ x5_2
         · rw [if_pos c4] at H
           have c4b0 : decide (0 ≤ x5_2) = true := decide_eq_true c4
           clear c4
           by_cases c5 : 0 ≤ x3_1
           · rw [if_pos c5] at H
             have c5b0 : decide (0 ≤ x3_1) = true := decide_eq_true c5
             clear c5
             by_cases c6 : x3_1 < (l0.length : Int)
             · rw [if_pos c6] at H
               have c6b0 : decide (x3_1 < (l0.length : Int)) = true := decide_eq_true c6
               clear c6
               by_cases c7 : (rd l0 x5_2) = (rd l0 x3_1)
               · rw [if_pos c7] at H
                 have c7b0 : ((rd l0 x5_2) == (rd l0 x3_1)) = true := beq_iff_eq.mpr c7
                 have c7b1 : ((rd l0 x5_2) != (rd l0 x3_1)) = false := bne_eq_false_iff_eq.mpr c7
                 clear c7
                 have H' := am H
                 clear H
                 have p113 : 0 ≤ (x5_2 : Int) := of_decide_eq_true (by (with_reducible assumption))
                 have q113 : x5_2 < (l0.length : Int) := of_decide_eq_true (by (with_reducible assumption))
                 obtain ⟨ad113, e113, hx113_0⟩ := Kd.at_int HR0.out x5_2 p113 q113
                 cases e113
                 replace p113 := eq_true p113
                 replace q113 := eq_true q113
                 have p114 : 0 ≤ (x3_1 : Int) := of_decide_eq_true (by (with_reducible assumption))
                 have q114 : x3_1 < (l0.length : Int) := of_decide_eq_true (by (with_reducible assumption))
                 obtain ⟨ad114, e114, hx114_0⟩ := Kd.at_int HR0.out x3_1 p114 q114
                 obtain rfl : ad113 = ad114 := (by injection e114)
                 replace p114 := eq_true p114
                 replace q114 := eq_true q114
                 go_wp2
                 repeat (go_quiet (fail); try go_wp2)
                 go_roundg k2
                 case measure => have := HK1.out; have := HK2.out; omega
                 case rel => exact ⟨(wrap64 (x4_2 + 1)), (wrap64 (x5_2 + 1)), (by rfl), (by rfl), H', ⟨by have := HK1.out; have := HK2.out; omega⟩, by repeat (first | exact Drawn0.refl _ | apply Drawn0.step)⟩
               · rw [if_neg c7] at H
                 have c7b0 : ((rd l0 x5_2) == (rd l0 x3_1)) = false := beq_eq_false_iff_ne.mpr c7
                 have c7b1 : ((rd l0 x5_2) != (rd l0 x3_1)) = true := bne_iff_ne.mpr c7
                 have H' := am H
                 clear H
                 have p113 : 0 ≤ (x5_2 : Int) := of_decide_eq_true (by (with_reducible assumption))
                 have q113 : x5_2 < (l0.length : Int) := of_decide_eq_true (by (with_reducible assumption))
                 obtain ⟨ad113, e113, hx113_0⟩ := Kd.at_int HR0.out x5_2 p113 q113
                 cases e113
                 replace p113 := eq_true p113
                 replace q113 := eq_true q113
                 have p114 : 0 ≤ (x3_1 : Int) := of_decide_eq_true (by (with_reducible assumption))
                 have q114 : x3_1 < (l0.length : Int) := of_decide_eq_true (by (with_reducible assumption))
                 obtain ⟨ad114, e114, hx114_0⟩ := Kd.at_int HR0.out x3_1 p114 q114
                 obtain rfl : ad113 = ad114 := (by injection e114)
                 replace p114 := eq_true p114
                 replace q114 := eq_true q114
                 go_wp2
                 repeat (go_quiet (fail); try go_wp2)
                 go_roundg k2
                 case measure => have := HK1.out; have := HK2.out; omega
                 case rel => exact ⟨(x4_2), (wrap64 (x5_2 + 1)), (by rfl), (by rfl), H', ⟨by have := HK1.out; have := HK2.out; omega⟩, by repeat (first | exact Drawn0.refl _ | apply Drawn0.step)⟩
             · rw [if_neg c6] at H
               exact absurd H (by simp)
           · rw [if_neg c5] at H
             exact absurd H (by simp)
         · rw [if_neg c4] at H
           exact absurd H (by simp)
       · rw [if_neg c3] at H
         have c3b0 : decide (x5_2 < (l0.length : Int)) = false := decide_eq_false c3
         clear c3
         by_cases c8 : x4_2 = 2
         · rw [if_pos c8] at H
           have c8b0 : (x4_2 == 2) = true := beq_iff_eq.mpr c8
           have c8b1 : (x4_2 != 2) = false := bne_eq_false_iff_eq.mpr c8
           clear c8
           have H' := am H
           clear H
           go_wp2
           repeat (go_quiet (fail); try go_wp2)
           go_roundg k2
           case measure => have := HK1.out; have := HK2.out; omega
           case rel => exact ⟨(wrap64 (x3_1 + 1)), (by rfl), H', ⟨by have := HK1.out; have := HK2.out; omega⟩, by repeat (first | exact Drawn0.refl _ | apply Drawn0.step)⟩
         · rw [if_neg c8] at H
           have c8b0 : (x4_2 == 2) = false := beq_eq_false_iff_ne.mpr c8
           have c8b1 : (x4_2 != 2) = true := bne_iff_ne.mpr c8
           obtain rfl := Option.some.inj H
           go_wp2
           repeat (go_quiet (fail); try go_wp2)
           go_ret
           exact ⟨by rfl, by repeat (first | exact Drawn0.refl _ | apply Drawn0.step)⟩
   · rw [if_neg c2] at H
     have c2b0 : decide (x3_1 < (l0.length : Int)) = false := decide_eq_false c2
     clear c2
     obtain rfl := Option.some.inj H
     go_wp2
     repeat (go_quiet (fail); try go_wp2)
     go_ret
     exact ⟨by rfl, by repeat (first | exact Drawn0.refl _ | apply Drawn0.step)⟩
end Go.Proofs.Ytgcgeoglhebonaa.P
end
section
namespace Go.Proofs.Ytgcgeoglhebonaa.P
open Go.RowKit Go.Proofs.YtgcgeoglhebonaaW.PrintWords Go.Proofs.YtgcgeoglhebonaaW.PrintLast Go.Proofs.YtgcgeoglhebonaaW.PrintMore
attribute [local go_sem] max2_int min2_int max_two min_two max_three min_three max_four min_four   -- for this text's walks alone
set_option linter.unusedVariables false
set_option linter.unusedSimpArgs false
mutual
def spec_l01Normal.l0 : Nat → List Int → List Int → List Int → Int → Option (List Int)
 | 0, _, _, _, _ => none
 | k + 1, x0, x3, x4, x5 => if x5 < (x0.length : Int) then (spec_l01Normal.l1 k x0 x3 x4 x5 (-1) 0) else (some x4)
def spec_l01Normal.l1 : Nat → List Int → List Int → List Int → Int → Int → Int → Option (List Int)
 | 0, _, _, _, _, _, _ => none
 | k + 1, x0, x3, x4, x5, x6, x7 => if x7 < (x3.length : Int) then (if 0 ≤ x7 then (if 0 ≤ x5 then (if x5 < (x0.length : Int) then (if (rd x3 x7) = (rd x0 x5) then (spec_l01Normal.l1 k x0 x3 x4 x5 x7 (wrap64 (x7 + 1))) else (spec_l01Normal.l1 k x0 x3 x4 x5 x6 (wrap64 (x7 + 1)))) else (none)) else (none)) else (none)) else (if x6 < 0 then (if 0 ≤ x5 then (if x5 < (x0.length : Int) then (if x3.length < 17592186044416 then (if x4.length < 17592186044416 then (spec_l01Normal.l0 k x0 (x3 ++ [rd x0 x5]) (x4 ++ [(x3.length : Int)]) (wrap64 (x5 + 1))) else (none)) else (none)) else (none)) else (none)) else (if x4.length < 17592186044416 then (spec_l01Normal.l0 k x0 x3 (x4 ++ [x6]) (wrap64 (x5 + 1))) else (none)))
end
def spec_l01Normal.f (k : Nat) (l0 : List Int) : Option (List Int) := spec_l01Normal.l0 k l0 (([] : List Int)) (([] : List Int)) 0
theorem spec_l01Normal.calls (k : Nat) (A0 : Option Addr) (c0 : Nat) (l0 : List Int) (r : List Int) (w : World) (hr0 : Kd.C (Kd.int .i64) w A0 l0.length l0) (hc0 : l0.length ≤ c0) (h : spec_l01Normal.f k l0 = some r) :
 Calls Try.prog 89 #[.slice A0 l0.length c0] w fun e w' => ∃ v0_ : Value, e = .returned (v0_) ∧ Kd.R (Kd.int .i64) 2 w' w.heap.size (fun _ => True) v0_ r ∧ Below w.heap.size w w' := by
 have HR0 := am hr0
 have HC0 := am hc0
 clear hr0 hc0
 have HB := am (Below.refl w.heap.size w)
 have H : (spec_l01Normal.l0 k l0 (([] : List Int)) (([] : List Int)) 0) = some r := h
 clear h
 obtain ⟨y115, hy115⟩ : ∃ y_ : List Int, y_ = (([] : List Int)) := ⟨_, rfl⟩
 replace H : (spec_l01Normal.l0 k l0 y115 (([] : List Int)) 0) = some r := by (rw [hy115]; with_reducible exact H)
 have Ny115 := am hy115
 clear hy115
 obtain ⟨y118, hy118⟩ : ∃ y_ : List Int, y_ = (([] : List Int)) := ⟨_, rfl⟩
 replace H : (spec_l01Normal.l0 k l0 y115 y118 0) = some r := by (rw [hy118]; with_reducible exact H)
 have Ny118 := am hy118
 clear hy118
 have H' := am H
 clear H
 go_enter Try.func89, Try.ntmps89
 go_wp2_with (first | ((with_reducible refine gate_dst (N := 8) rfl ?_); refine Kd.R_lit (Kd.int .i64) _ 2 ?hg (N := 8) ?hd (xs := ([] : List Int)) (inner := []) (ok := fun _ => True) (okp := fun _ => True) ?hr ?hp (fun _ hk => hk) trivial (Below.refl _ _) (Nat.le_refl _) (by simp) ?_; (case hd => rfl); (case hg => rfl); (case hr => (go_simp; done)); (case hp => exact (Reps.none _ _)); intro v116 w2 ho3 hb hg_ hnew_; clear hg_ hnew_; (rw [← Ny115.out] at ho3); have n0_ := am (Kd.R_lower ho3 (below_size (by repeat ((with_reducible exact HB.out))))); have n1_ := am (below_step (by repeat ((with_reducible exact HB.out))) hb); clear HB; have HO117 := n0_; have HB := n1_; clear n0_ n1_; clear hb ho3) | ((with_reducible refine gate_dst (N := 9) rfl ?_); refine Kd.R_lit (Kd.int .i64) _ 2 ?hg (N := 9) ?hd (xs := ([] : List Int)) (inner := []) (ok := fun _ => True) (okp := fun _ => True) ?hr ?hp (fun _ hk => hk) trivial (Below.refl _ _) (Nat.le_refl _) (by simp) ?_; (case hd => rfl); (case hg => rfl); (case hr => (go_simp; done)); (case hp => exact (Reps.none _ _)); intro v119 w4 ho5 hb hg_ hnew_; clear hg_ hnew_; (rw [← Ny118.out] at ho5); have n0_ := am (Kd.R_elder' (by (with_reducible repeat (apply Kd.R_drew)); exact HO117.out) (Kd.R_base ho5) hb); have n1_ := am (Kd.R_lower (Kd.R_new' ho5 (Kd.R_lt (by (with_reducible repeat (apply Kd.R_drew)); exact HO117.out))) (below_size (by repeat ((with_reducible exact HB.out))))); have n2_ := am (below_step (by repeat ((with_reducible exact HB.out))) hb); clear HO117; clear HB; have HO117 := n0_; have HO120 := n1_; have HB := n2_; clear n0_ n1_ n2_; clear hb ho5))
 repeat (go_quiet (((with_reducible refine gate_dst (N := 8) rfl ?_); refine Kd.R_lit (Kd.int .i64) _ 2 ?hg (N := 8) ?hd (xs := ([] : List Int)) (inner := []) (ok := fun _ => True) (okp := fun _ => True) ?hr ?hp (fun _ hk => hk) trivial (Below.refl _ _) (Nat.le_refl _) (by simp) ?_; (case hd => rfl); (case hg => rfl); (case hr => (go_simp; rfl)); (case hp => exact (Reps.none _ _)); intro v116 w2 ho3 hb hg_ hnew_; clear hg_ hnew_; (rw [← Ny115.out] at ho3); have n0_ := am (Kd.R_lower ho3 (below_size (by repeat (exact HB.out)))); have n1_ := am (below_step (by repeat (exact HB.out)) hb); clear HB; have HO117 := n0_; have HB := n1_; clear n0_ n1_; clear hb ho3)); try go_wp2_with (((with_reducible refine gate_dst (N := 8) rfl ?_); refine Kd.R_lit (Kd.int .i64) _ 2 ?hg (N := 8) ?hd (xs := ([] : List Int)) (inner := []) (ok := fun _ => True) (okp := fun _ => True) ?hr ?hp (fun _ hk => hk) trivial (Below.refl _ _) (Nat.le_refl _) (by simp) ?_; (case hd => rfl); (case hg => rfl); (case hr => (go_simp; rfl)); (case hp => exact (Reps.none _ _)); intro v116 w2 ho3 hb hg_ hnew_; clear hg_ hnew_; (rw [← Ny115.out] at ho3); have n0_ := am (Kd.R_lower ho3 (below_size (by repeat (exact HB.out)))); have n1_ := am (below_step (by repeat (exact HB.out)) hb); clear HB; have HO117 := n0_; have HB := n1_; clear n0_ n1_; clear hb ho3)))
 go_loopg [3, 4, 5] k (fun kq v3 v4 v5 w' => ∃ (x3_1 : List Int) (x4_1 : List Int) (x5_1 : Int), v5 = .int .i64 x5_1 ∧ Aside0 (spec_l01Normal.l0 kq l0 x3_1 x4_1 x5_1 = some r) ∧ Aside0 (kq ≤ k) ∧ Aside0 (Kd.R (Kd.int .i64) 2 w' w.heap.size (fun k_ => some k_ ≠ (v4 : Value).ownBlock) v3 x3_1) ∧ Aside0 (Kd.R (Kd.int .i64) 2 w' w.heap.size (fun k_ => some k_ ≠ (v3 : Value).ownBlock) v4 x4_1) ∧ Aside0 (Below w.heap.size w w'))
 case atStart => exact ⟨(y115), (y118), (0), (by rfl), H', ⟨Nat.le_refl _⟩, ⟨by (with_reducible repeat (apply Kd.R_drew)); exact Kd.R_mono HO117.out (fun _ hk => hk.2)⟩, ⟨by (with_reducible repeat (apply Kd.R_drew)); exact Kd.R_mono HO120.out (fun _ hk => hk.2)⟩, ⟨by repeat ((with_reducible exact HB.out))⟩⟩
 case round =>
  clear H'
  try clear p2
  obtain ⟨x3_1, x4_1, x5_1, rfl, HA, HK1, HO_3, HO_4, HB⟩ := hrel
  cases gk with
  | zero => exact absurd HA.out (by simp [spec_l01Normal.l0])
  | succ k1 =>
   have H := HA.out
   clear HA
   simp only [spec_l01Normal.l0] at H
   by_cases c6 : x5_1 < (l0.length : Int)
   · rw [if_pos c6] at H
     have c6b0 : decide (x5_1 < (l0.length : Int)) = true := decide_eq_true c6
     clear c6
     have H' := am H
     clear H
     go_wp2
     repeat (go_quiet (fail); try go_wp2)
     go_loopg [6, 7] k1 (fun kq v6 v7 w' => ∃ (x6_2 : Int) (x7_2 : Int), v6 = .int .i64 x6_2 ∧ v7 = .int .i64 x7_2 ∧ Aside0 (spec_l01Normal.l1 kq l0 x3_1 x4_1 x5_1 x6_2 x7_2 = some r) ∧ Aside0 (kq ≤ k1) ∧ Aside0 (Kd.R (Kd.int .i64) 2 w' w.heap.size (fun k_ => some k_ ≠ (u4 : Value).ownBlock) u3 x3_1) ∧ Aside0 (Kd.R (Kd.int .i64) 2 w' w.heap.size (fun k_ => some k_ ≠ (u3 : Value).ownBlock) u4 x4_1) ∧ Aside0 (Below w.heap.size w w'))
     case atStart => exact ⟨((-1)), (0), (by rfl), (by rfl), H', ⟨Nat.le_refl _⟩, ⟨by (with_reducible repeat (apply Kd.R_drew)); exact HO_3.out⟩, ⟨by (with_reducible repeat (apply Kd.R_drew)); exact HO_4.out⟩, ⟨by repeat ((with_reducible exact HB.out))⟩⟩
     case round =>
      clear H'
      try clear p2
      try clear c6
      try clear c6b0
      try clear p2
      obtain ⟨x6_2, x7_2, rfl, rfl, HA, HK2, HO_3, HO_4, HB⟩ := hrel
      cases gk with
      | zero => exact absurd HA.out (by simp [spec_l01Normal.l1])
      | succ k2 =>
       have H := HA.out
       clear HA
       simp only [spec_l01Normal.l1] at H
       by_cases c7 : x7_2 < (x3_1.length : Int)
       · rw [if_pos c7] at H
         have c7b0 : decide (x7_2 < (x3_1.length : Int)) = true := decide_eq_true c7
         clear c7
         by_cases c8 : 0 ≤ x7_2
         · rw [if_pos c8] at H
           have c8b0 : decide (0 ≤ x7_2) = true := decide_eq_true c8
           clear c8
           by_cases c9 : 0 ≤ x5_1
           · rw [if_pos c9] at H
             have c9b0 : decide (0 ≤ x5_1) = true := decide_eq_true c9
             clear c9
             by_cases c10 : x5_1 < (l0.length : Int)
             · rw [if_pos c10] at H
               have c10b0 : decide (x5_1 < (l0.length : Int)) = true := decide_eq_true c10
               clear c10
               by_cases c11 : (rd x3_1 x7_2) = (rd l0 x5_1)
               · rw [if_pos c11] at H
                 have c11b0 : ((rd x3_1 x7_2) == (rd l0 x5_1)) = true := beq_iff_eq.mpr c11
                 have c11b1 : ((rd x3_1 x7_2) != (rd l0 x5_1)) = false := bne_eq_false_iff_eq.mpr c11
                 clear c11
                 have H' := am H
                 clear H
                 obtain ⟨Ao12, co12, eo12⟩ := Kd.R_slice HO_3.out
                 subst eo12
                 have p121 : 0 ≤ (x7_2 : Int) := of_decide_eq_true (by (with_reducible assumption))
                 have q121 : x7_2 < (x3_1.length : Int) := of_decide_eq_true (by (with_reducible assumption))
                 obtain ⟨ad121, e121, hx121_0⟩ := Kd.at_int (Kd.R_reads' HO_3.out).2.2 x7_2 p121 q121
                 cases e121
                 replace p121 := eq_true p121
                 replace q121 := eq_true q121
                 have p122 : 0 ≤ (x5_1 : Int) := of_decide_eq_true (by (with_reducible assumption))
                 have q122 : x5_1 < (l0.length : Int) := of_decide_eq_true (by (with_reducible assumption))
                 obtain ⟨ad122, e122, hx122_0⟩ := Kd.at_int HR0.out x5_1 p122 q122
                 cases e122
                 replace hx122_0 := (HB.out.cell (World.block_lt_of_cell? w _ hx122_0)).trans hx122_0
                 replace p122 := eq_true p122
                 replace q122 := eq_true q122
                 go_wp2
                 repeat (go_quiet (fail); try go_wp2)
                 go_roundg k2
                 case measure => have := HK1.out; have := HK2.out; omega
                 case rel => exact ⟨(x7_2), (wrap64 (x7_2 + 1)), (by rfl), (by rfl), H', ⟨by have := HK1.out; have := HK2.out; omega⟩, ⟨by (with_reducible repeat (apply Kd.R_drewN)); exact HO_3.out⟩, ⟨by (with_reducible repeat (apply Kd.R_drewN)); exact HO_4.out⟩, ⟨by repeat ((with_reducible first | exact HB.out | apply pw_below_drewN))⟩⟩
               · rw [if_neg c11] at H
                 have c11b0 : ((rd x3_1 x7_2) == (rd l0 x5_1)) = false := beq_eq_false_iff_ne.mpr c11
                 have c11b1 : ((rd x3_1 x7_2) != (rd l0 x5_1)) = true := bne_iff_ne.mpr c11
                 have H' := am H
                 clear H
                 obtain ⟨Ao13, co13, eo13⟩ := Kd.R_slice HO_3.out
                 subst eo13
                 have p121 : 0 ≤ (x7_2 : Int) := of_decide_eq_true (by (with_reducible assumption))
                 have q121 : x7_2 < (x3_1.length : Int) := of_decide_eq_true (by (with_reducible assumption))
                 obtain ⟨ad121, e121, hx121_0⟩ := Kd.at_int (Kd.R_reads' HO_3.out).2.2 x7_2 p121 q121
                 cases e121
                 replace p121 := eq_true p121
                 replace q121 := eq_true q121
                 have p122 : 0 ≤ (x5_1 : Int) := of_decide_eq_true (by (with_reducible assumption))
                 have q122 : x5_1 < (l0.length : Int) := of_decide_eq_true (by (with_reducible assumption))
                 obtain ⟨ad122, e122, hx122_0⟩ := Kd.at_int HR0.out x5_1 p122 q122
                 cases e122
                 replace hx122_0 := (HB.out.cell (World.block_lt_of_cell? w _ hx122_0)).trans hx122_0
                 replace p122 := eq_true p122
                 replace q122 := eq_true q122
                 go_wp2
                 repeat (go_quiet (fail); try go_wp2)
                 go_roundg k2
                 case measure => have := HK1.out; have := HK2.out; omega
                 case rel => exact ⟨(x6_2), (wrap64 (x7_2 + 1)), (by rfl), (by rfl), H', ⟨by have := HK1.out; have := HK2.out; omega⟩, ⟨by (with_reducible repeat (apply Kd.R_drewN)); exact HO_3.out⟩, ⟨by (with_reducible repeat (apply Kd.R_drewN)); exact HO_4.out⟩, ⟨by repeat ((with_reducible first | exact HB.out | apply pw_below_drewN))⟩⟩
             · rw [if_neg c10] at H
               exact absurd H (by simp)
           · rw [if_neg c9] at H
             exact absurd H (by simp)
         · rw [if_neg c8] at H
           exact absurd H (by simp)
       · rw [if_neg c7] at H
         have c7b0 : decide (x7_2 < (x3_1.length : Int)) = false := decide_eq_false c7
         clear c7
         by_cases c14 : x6_2 < 0
         · rw [if_pos c14] at H
           have c14b0 : decide (x6_2 < 0) = true := decide_eq_true c14
           clear c14
           by_cases c15 : 0 ≤ x5_1
           · rw [if_pos c15] at H
             have c15b0 : decide (0 ≤ x5_1) = true := decide_eq_true c15
             clear c15
             by_cases c16 : x5_1 < (l0.length : Int)
             · rw [if_pos c16] at H
               have c16b0 : decide (x5_1 < (l0.length : Int)) = true := decide_eq_true c16
               clear c16
               by_cases c17 : x3_1.length < 17592186044416
               · rw [if_pos c17] at H
                 have LMc17 := am c17
                 clear c17
                 obtain ⟨y124, hy124⟩ : ∃ y_ : List Int, y_ = (x3_1 ++ [rd l0 x5_1]) := ⟨_, rfl⟩
                 replace H : (if x4_1.length < 17592186044416 then (spec_l01Normal.l0 k2 l0 y124 (x4_1 ++ [(x3_1.length : Int)]) (wrap64 (x5_1 + 1))) else (none)) = some r := by (rw [hy124]; with_reducible exact H)
                 have Ny124 := am hy124
                 clear hy124
                 by_cases c18 : x4_1.length < 17592186044416
                 · rw [if_pos c18] at H
                   have LMc18 := am c18
                   clear c18
                   obtain ⟨y127, hy127⟩ : ∃ y_ : List Int, y_ = (x4_1 ++ [(x3_1.length : Int)]) := ⟨_, rfl⟩
                   replace H : (spec_l01Normal.l0 k2 l0 y124 y127 (wrap64 (x5_1 + 1))) = some r := by (rw [hy127]; with_reducible exact H)
                   have Ny127 := am hy127
                   clear hy127
                   have H' := am H
                   clear H
                   obtain ⟨Ao19, co19, eo19⟩ := Kd.R_slice HO_3.out
                   subst eo19
                   have p123 : 0 ≤ (x5_1 : Int) := of_decide_eq_true (by (with_reducible assumption))
                   have q123 : x5_1 < (l0.length : Int) := of_decide_eq_true (by (with_reducible assumption))
                   obtain ⟨ad123, e123, hx123_0⟩ := Kd.at_int HR0.out x5_1 p123 q123
                   cases e123
                   replace hx123_0 := (HB.out.cell (World.block_lt_of_cell? w _ hx123_0)).trans hx123_0
                   replace p123 := eq_true p123
                   replace q123 := eq_true q123
                   go_wp2_with (first | ((with_reducible refine gate_builtin (b := .append) (xs := #[.tmp 36, .tmp 41]) rfl ?_); at_builtin; refine Kd.R_append (Kd.int .i64) (w0 := w) w.heap.size rfl (.tmp 36) (.tmp 41) 50 2 (.int .i64 0) 8 rfl Try.underlying50 info2 rfl (by decide) (by omega) (.slice Ao19 x3_1.length co19) x3_1 (rd l0 x5_1) [.int .i64 (rd l0 x5_1)] (fun k_ => some k_ ≠ (u4 : Value).ownBlock) (fun _ => False) rfl rfl ?aP (fun _ hk => hk.elim) ?aF ?aO ?aB ?aS ?aL ?_; (case aP => exact rfl); (case aB => exact (by repeat ((with_reducible exact HB.out)))); (case aF => exact (fun k_ hk => Kd.fresh' (Kd.R_lt (by (with_reducible repeat (apply Kd.R_drew)); exact HO_4.out)) k_ hk)); (case aO => exact (by (with_reducible repeat (apply Kd.R_drew)); exact HO_3.out)); (case aS => exact (below_size (by repeat ((with_reducible exact HB.out))))); (case aL => have := LMc17.out; omega); intro v125 w20 ho hb hg hat; rw [← Ny124.out] at ho; have n0_ := am (Kd.R_after (ok := (fun _ => True)) (by (with_reducible repeat (apply Kd.R_drew)); exact Kd.R_mono HO_4.out (fun _ hk => ⟨trivial, hk⟩)) hg hat); have n1_ := am (hb); have n2_ := am (ho); clear HO_4; clear HB; clear HO_3; have HO_4 := n0_; have HB := n1_; have HO126 := n2_; clear n0_ n1_ n2_; clear ho hb hg hat) | ((with_reducible refine gate_builtin (b := .append) (xs := #[.tmp 43, .tmp 45]) rfl ?_); at_builtin; refine Kd.R_append (Kd.int .i64) (w0 := w) w.heap.size rfl (.tmp 43) (.tmp 45) 50 2 (.int .i64 0) 8 rfl Try.underlying50 info2 rfl (by decide) (by omega) u4 x4_1 (x3_1.length : Int) [.int .i64 (x3_1.length : Int)] (fun k_ => some k_ ≠ (v125 : Value).ownBlock) (fun _ => False) rfl rfl ?aP (fun _ hk => hk.elim) ?aF ?aO ?aB ?aS ?aL ?_; (case aP => exact rfl); (case aB => exact (by repeat ((with_reducible exact HB.out)))); (case aF => exact (fun k_ hk => Kd.fresh' (Kd.R_lt (by (with_reducible repeat (apply Kd.R_drew)); exact HO126.out)) k_ hk)); (case aO => exact (by (with_reducible repeat (apply Kd.R_drew)); exact Kd.R_mono HO_4.out (fun _ hk => hk.2))); (case aS => exact (below_size (by repeat ((with_reducible exact HB.out))))); (case aL => have := LMc18.out; omega); intro v128 w21 ho hb hg hat; rw [← Ny127.out] at ho; have n0_ := am (Kd.R_after (ok := (fun _ => True)) (by (with_reducible repeat (apply Kd.R_drew)); exact Kd.R_mono HO126.out (fun _ hk => ⟨trivial, hk⟩)) hg hat); have n1_ := am (hb); have n2_ := am (ho); clear HO126; clear HB; clear HO_4; have HO126 := n0_; have HB := n1_; have HO129 := n2_; clear n0_ n1_ n2_; clear ho hb hg hat))
                   repeat (go_quiet (((with_reducible refine gate_builtin (b := .append) (xs := #[.tmp 36, .tmp 41]) rfl ?_); at_builtin; refine Kd.R_append (Kd.int .i64) (w0 := w) w.heap.size rfl (.tmp 36) (.tmp 41) 50 2 (.int .i64 0) 8 rfl Try.underlying50 info2 rfl (by decide) (by omega) (.slice Ao19 x3_1.length co19) x3_1 (rd l0 x5_1) [.int .i64 (rd l0 x5_1)] (fun k_ => some k_ ≠ (u4 : Value).ownBlock) (fun _ => False) rfl rfl ?aP (fun _ hk => hk.elim) ?aF ?aO ?aB ?aS ?aL ?_; (case aP => exact rfl); (case aB => exact (by repeat (exact HB.out))); (case aF => exact (fun k_ hk => Kd.fresh' (Kd.R_lt (by (with_reducible repeat (apply Kd.R_drew)); exact HO_4.out)) k_ hk)); (case aO => exact (by (with_reducible repeat (apply Kd.R_drew)); exact HO_3.out)); (case aS => exact (below_size (by repeat (exact HB.out)))); (case aL => have := LMc17.out; omega); intro v125 w20 ho hb hg hat; rw [← Ny124.out] at ho; have n0_ := am (Kd.R_after (ok := (fun _ => True)) (by (with_reducible repeat (apply Kd.R_drew)); exact Kd.R_mono HO_4.out (fun _ hk => ⟨trivial, hk⟩)) hg hat); have n1_ := am (hb); have n2_ := am (ho); clear HO_4; clear HB; clear HO_3; have HO_4 := n0_; have HB := n1_; have HO126 := n2_; clear n0_ n1_ n2_; clear ho hb hg hat)); try go_wp2_with (((with_reducible refine gate_builtin (b := .append) (xs := #[.tmp 36, .tmp 41]) rfl ?_); at_builtin; refine Kd.R_append (Kd.int .i64) (w0 := w) w.heap.size rfl (.tmp 36) (.tmp 41) 50 2 (.int .i64 0) 8 rfl Try.underlying50 info2 rfl (by decide) (by omega) (.slice Ao19 x3_1.length co19) x3_1 (rd l0 x5_1) [.int .i64 (rd l0 x5_1)] (fun k_ => some k_ ≠ (u4 : Value).ownBlock) (fun _ => False) rfl rfl ?aP (fun _ hk => hk.elim) ?aF ?aO ?aB ?aS ?aL ?_; (case aP => exact rfl); (case aB => exact (by repeat (exact HB.out))); (case aF => exact (fun k_ hk => Kd.fresh' (Kd.R_lt (by (with_reducible repeat (apply Kd.R_drew)); exact HO_4.out)) k_ hk)); (case aO => exact (by (with_reducible repeat (apply Kd.R_drew)); exact HO_3.out)); (case aS => exact (below_size (by repeat (exact HB.out)))); (case aL => have := LMc17.out; omega); intro v125 w20 ho hb hg hat; rw [← Ny124.out] at ho; have n0_ := am (Kd.R_after (ok := (fun _ => True)) (by (with_reducible repeat (apply Kd.R_drew)); exact Kd.R_mono HO_4.out (fun _ hk => ⟨trivial, hk⟩)) hg hat); have n1_ := am (hb); have n2_ := am (ho); clear HO_4; clear HB; clear HO_3; have HO_4 := n0_; have HB := n1_; have HO126 := n2_; clear n0_ n1_ n2_; clear ho hb hg hat)))
                   go_roundg k2
                   case measure => have := HK1.out; have := HK2.out; omega
                   case rel => exact ⟨(y124), (y127), (wrap64 (x5_1 + 1)), (by rfl), H', ⟨by have := HK1.out; have := HK2.out; omega⟩, ⟨by (with_reducible repeat (apply Kd.R_drew)); exact Kd.R_mono HO126.out (fun _ hk => hk.2)⟩, ⟨by (with_reducible repeat (apply Kd.R_drew)); exact HO129.out⟩, ⟨by repeat ((with_reducible exact HB.out))⟩⟩
                 · rw [if_neg c18] at H
                   exact absurd H (by simp)
               · rw [if_neg c17] at H
                 exact absurd H (by simp)
             · rw [if_neg c16] at H
               exact absurd H (by simp)
           · rw [if_neg c15] at H
             exact absurd H (by simp)
         · rw [if_neg c14] at H
           have c14b0 : decide (x6_2 < 0) = false := decide_eq_false c14
           clear c14
           by_cases c22 : x4_1.length < 17592186044416
           · rw [if_pos c22] at H
             have LMc22 := am c22
             clear c22
             obtain ⟨y130, hy130⟩ : ∃ y_ : List Int, y_ = (x4_1 ++ [x6_2]) := ⟨_, rfl⟩
             replace H : (spec_l01Normal.l0 k2 l0 x3_1 y130 (wrap64 (x5_1 + 1))) = some r := by (rw [hy130]; with_reducible exact H)
             have Ny130 := am hy130
             clear hy130
             have H' := am H
             clear H
             obtain ⟨Ao23, co23, eo23⟩ := Kd.R_slice HO_3.out
             subst eo23
             go_wp2_with (((with_reducible refine gate_builtin (b := .append) (xs := #[.tmp 43, .tmp 45]) rfl ?_); at_builtin; refine Kd.R_append (Kd.int .i64) (w0 := w) w.heap.size rfl (.tmp 43) (.tmp 45) 50 2 (.int .i64 0) 8 rfl Try.underlying50 info2 rfl (by decide) (by omega) u4 x4_1 x6_2 [.int .i64 x6_2] (fun k_ => some k_ ≠ (.slice Ao23 x3_1.length co23 : Value).ownBlock) (fun _ => False) rfl rfl ?aP (fun _ hk => hk.elim) ?aF ?aO ?aB ?aS ?aL ?_; (case aP => exact rfl); (case aB => exact (by repeat ((with_reducible exact HB.out)))); (case aF => exact (fun k_ hk => Kd.fresh' (Kd.R_lt (by (with_reducible repeat (apply Kd.R_drew)); exact HO_3.out)) k_ hk)); (case aO => exact (by (with_reducible repeat (apply Kd.R_drew)); exact HO_4.out)); (case aS => exact (below_size (by repeat ((with_reducible exact HB.out))))); (case aL => have := LMc22.out; omega); intro v131 w24 ho hb hg hat; rw [← Ny130.out] at ho; have n0_ := am (Kd.R_after (ok := (fun _ => True)) (by (with_reducible repeat (apply Kd.R_drew)); exact Kd.R_mono HO_3.out (fun _ hk => ⟨trivial, hk⟩)) hg hat); have n1_ := am (hb); have n2_ := am (ho); clear HO_3; clear HB; clear HO_4; have HO_3 := n0_; have HB := n1_; have HO132 := n2_; clear n0_ n1_ n2_; clear ho hb hg hat))
             repeat (go_quiet (((with_reducible refine gate_builtin (b := .append) (xs := #[.tmp 43, .tmp 45]) rfl ?_); at_builtin; refine Kd.R_append (Kd.int .i64) (w0 := w) w.heap.size rfl (.tmp 43) (.tmp 45) 50 2 (.int .i64 0) 8 rfl Try.underlying50 info2 rfl (by decide) (by omega) u4 x4_1 x6_2 [.int .i64 x6_2] (fun k_ => some k_ ≠ (.slice Ao23 x3_1.length co23 : Value).ownBlock) (fun _ => False) rfl rfl ?aP (fun _ hk => hk.elim) ?aF ?aO ?aB ?aS ?aL ?_; (case aP => exact rfl); (case aB => exact (by repeat (exact HB.out))); (case aF => exact (fun k_ hk => Kd.fresh' (Kd.R_lt (by (with_reducible repeat (apply Kd.R_drew)); exact HO_3.out)) k_ hk)); (case aO => exact (by (with_reducible repeat (apply Kd.R_drew)); exact HO_4.out)); (case aS => exact (below_size (by repeat (exact HB.out)))); (case aL => have := LMc22.out; omega); intro v131 w24 ho hb hg hat; rw [← Ny130.out] at ho; have n0_ := am (Kd.R_after (ok := (fun _ => True)) (by (with_reducible repeat (apply Kd.R_drew)); exact Kd.R_mono HO_3.out (fun _ hk => ⟨trivial, hk⟩)) hg hat); have n1_ := am (hb); have n2_ := am (ho); clear HO_3; clear HB; clear HO_4; have HO_3 := n0_; have HB := n1_; have HO132 := n2_; clear n0_ n1_ n2_; clear ho hb hg hat)); try go_wp2_with (((with_reducible refine gate_builtin (b := .append) (xs := #[.tmp 43, .tmp 45]) rfl ?_); at_builtin; refine Kd.R_append (Kd.int .i64) (w0 := w) w.heap.size rfl (.tmp 43) (.tmp 45) 50 2 (.int .i64 0) 8 rfl Try.underlying50 info2 rfl (by decide) (by omega) u4 x4_1 x6_2 [.int .i64 x6_2] (fun k_ => some k_ ≠ (.slice Ao23 x3_1.length co23 : Value).ownBlock) (fun _ => False) rfl rfl ?aP (fun _ hk => hk.elim) ?aF ?aO ?aB ?aS ?aL ?_; (case aP => exact rfl); (case aB => exact (by repeat (exact HB.out))); (case aF => exact (fun k_ hk => Kd.fresh' (Kd.R_lt (by (with_reducible repeat (apply Kd.R_drew)); exact HO_3.out)) k_ hk)); (case aO => exact (by (with_reducible repeat (apply Kd.R_drew)); exact HO_4.out)); (case aS => exact (below_size (by repeat (exact HB.out)))); (case aL => have := LMc22.out; omega); intro v131 w24 ho hb hg hat; rw [← Ny130.out] at ho; have n0_ := am (Kd.R_after (ok := (fun _ => True)) (by (with_reducible repeat (apply Kd.R_drew)); exact Kd.R_mono HO_3.out (fun _ hk => ⟨trivial, hk⟩)) hg hat); have n1_ := am (hb); have n2_ := am (ho); clear HO_3; clear HB; clear HO_4; have HO_3 := n0_; have HB := n1_; have HO132 := n2_; clear n0_ n1_ n2_; clear ho hb hg hat)))
             go_roundg k2
             case measure => have := HK1.out; have := HK2.out; omega
             case rel => exact ⟨(x3_1), (y130), (wrap64 (x5_1 + 1)), (by rfl), H', ⟨by have := HK1.out; have := HK2.out; omega⟩, ⟨by (with_reducible repeat (apply Kd.R_drew)); exact Kd.R_mono HO_3.out (fun _ hk => hk.2)⟩, ⟨by (with_reducible repeat (apply Kd.R_drew)); exact HO132.out⟩, ⟨by repeat ((with_reducible exact HB.out))⟩⟩
           · rw [if_neg c22] at H
             exact absurd H (by simp)
   · rw [if_neg c6] at H
     have c6b0 : decide (x5_1 < (l0.length : Int)) = false := decide_eq_false c6
     clear c6
     obtain rfl := Option.some.inj H
     go_wp2
     repeat (go_quiet (fail); try go_wp2)
     go_ret
     exact ⟨_, by rfl, by (with_reducible repeat (apply Kd.R_drew)); exact Kd.R_mono HO_4.out (fun _ hk => trivial), by repeat ((with_reducible exact HB.out))⟩
def spec_l01Is.f (k : Nat) (l0 : List Int) : Option (Bool) := if (l0.length : Int) ≤ 12 then ((spec_l01Twice.f k l0).bind fun t133 => (if t133 = true then ((spec_l01Normal.f k l0).bind fun t134 => ((spec_l01Same.f k t134 l0).bind fun t137 => (some t137))) else (some false))) else (some false)
theorem spec_l01Is.calls (k : Nat) (A0 : Option Addr) (c0 : Nat) (l0 : List Int) (r : Bool) (w : World) (hr0 : Kd.C (Kd.int .i64) w A0 l0.length l0) (hc0 : l0.length ≤ c0) (h : spec_l01Is.f k l0 = some r) :
 Calls Try.prog 76 #[.slice A0 l0.length c0] w fun e w' => e = .returned (.bool r) ∧ Below w.heap.size w w' := by
 have HR0 := am hr0
 have HC0 := am hc0
 clear hr0 hc0
 have HB := am (Below.refl w.heap.size w)
 have H : (if (l0.length : Int) ≤ 12 then ((spec_l01Twice.f k l0).bind fun t133 => (if t133 = true then ((spec_l01Normal.f k l0).bind fun t134 => ((spec_l01Same.f k t134 l0).bind fun t137 => (some t137))) else (some false))) else (some false)) = some r := h
 clear h
 by_cases c2 : (l0.length : Int) ≤ 12
 · rw [if_pos c2] at H
   have c2b0 : decide ((l0.length : Int) ≤ 12) = true := decide_eq_true c2
   have c2b1 : decide (l0.length ≤ 12) = true := decide_eq_true (by omega)
   clear c2
   replace H := Option.bind_eq_some_iff.mp H
   obtain ⟨t133, A30, H⟩ := H
   replace H : (if t133 = true then ((spec_l01Normal.f k l0).bind fun t134 => ((spec_l01Same.f k t134 l0).bind fun t137 => (some t137))) else (some false)) = some r := H
   have A3 := am A30
   clear A30
   by_cases c4 : t133 = true
   · subst c4
     have H1 : ((spec_l01Normal.f k l0).bind fun t134 => ((spec_l01Same.f k t134 l0).bind fun t137 => (some t137))) = some r := by rw [if_pos rfl] at H; exact H
     clear H
     have H := H1
     clear H1
     replace H := Option.bind_eq_some_iff.mp H
     obtain ⟨t134, A50, H⟩ := H
     replace H : ((spec_l01Same.f k t134 l0).bind fun t137 => (some t137)) = some r := H
     have A5 := am A50
     clear A50
     replace H := Option.bind_eq_some_iff.mp H
     obtain ⟨t137, A60, H⟩ := H
     replace H : (some t137) = some r := H
     have A6 := am A60
     clear A60
     obtain rfl := Option.some.inj H
     go_enter Try.func76, Try.ntmps76
     go_wp2_with (first | (go_at_call 88; (with_reducible refine (spec_l01Twice.calls k _ _ l0 true _ ?side1 ?side2 A3.out).mono ?_); (case side1 => repeat (exact HR0.out)); (case side2 => exact HC0.out); rintro e w' ⟨rfl, ⟨nd, rfl⟩⟩) | (go_at_call 89; (with_reducible refine (spec_l01Normal.calls k _ _ l0 t134 _ ?side1 ?side2 A5.out).mono ?_); (case side1 => repeat (exact HR0.out)); (case side2 => exact HC0.out); rintro e w7 ⟨v135, rfl, ho0, hb⟩; have n0_ := am (Kd.R_lower ho0 (below_size (by repeat ((with_reducible first | exact HB.out | apply pw_below_drewN))))); have n1_ := am (below_step (by repeat ((with_reducible first | exact HB.out | apply pw_below_drewN))) hb); clear HB; have HO136 := n0_; have HB := n1_; clear n0_ n1_; (try clear hb); (try clear hb2); (try clear hk); (try clear hi); (try clear ho0); obtain ⟨Ao8, co8, eo8⟩ := Kd.R_slice HO136.out; subst eo8) | (go_at_call 68; (with_reducible refine (spec_l01Same.calls k _ _ t134 _ _ l0 t137 _ ?side1 ?side2 ?side3 ?side4 A6.out).mono ?_); (case side1 => repeat (exact (Kd.R_reads' HO136.out).2.2)); (case side2 => exact (Kd.R_reads' HO136.out).2.1); (case side3 => repeat (exact (Kd.C_below HR0.out HB.out))); (case side4 => exact HC0.out); rintro e w' ⟨rfl, ⟨nd, rfl⟩⟩))
     go_ret
     exact ⟨by rfl, by repeat ((with_reducible first | exact HB.out | apply pw_below_drewN))⟩
   · replace c4 := Bool.eq_false_iff.mpr c4
     subst c4
     have H1 : (some false) = some r := by rw [if_neg (show ¬ (false = true) by decide)] at H; exact H
     clear H
     have H := H1
     clear H1
     obtain rfl := Option.some.inj H
     go_enter Try.func76, Try.ntmps76
     go_wp2_with ((go_at_call 88; (with_reducible refine (spec_l01Twice.calls k _ _ l0 false _ ?side1 ?side2 A3.out).mono ?_); (case side1 => repeat (exact HR0.out)); (case side2 => exact HC0.out); rintro e w' ⟨rfl, ⟨nd, rfl⟩⟩))
     go_ret
     exact ⟨by rfl, by repeat ((with_reducible first | exact HB.out | apply pw_below_drewN))⟩
 · rw [if_neg c2] at H
   have c2b0 : decide ((l0.length : Int) ≤ 12) = false := decide_eq_false c2
   have c2b1 : decide (l0.length ≤ 12) = false := decide_eq_false (by omega)
   clear c2
   obtain rfl := Option.some.inj H
   go_enter Try.func76, Try.ntmps76
   go_wp2
   go_ret
   exact ⟨by rfl, by repeat ((with_reducible exact HB.out))⟩
end Go.Proofs.Ytgcgeoglhebonaa.P
end
section
namespace Go.Proofs.Ytgcgeoglhebonaa.P
open Go.RowKit Go.Proofs.YtgcgeoglhebonaaW.PrintWords Go.Proofs.YtgcgeoglhebonaaW.PrintLast Go.Proofs.YtgcgeoglhebonaaW.PrintMore
attribute [local go_sem] max2_int min2_int max_two min_two max_three min_three max_four min_four   -- for this text's walks alone
set_option linter.unusedVariables false
set_option linter.unusedSimpArgs false
mutual
def spec_l03Is.j0 : Nat → Bool → Int → List (S65) → Option (Bool)
 | 0, _, _, _ => none
 | k + 1, x14, x139000, x139001 => if x14 = true then (some false) else (spec_l03Is.l0 k 0 x139000 x139001)
def spec_l03Is.l0 : Nat → Int → Int → List (S65) → Option (Bool)
 | 0, _, _, _ => none
 | k + 1, x3, x139000, x139001 => if x3 < (x139001.length : Int) then (if 0 ≤ x3 then ((spec_l01Is.f k ((rd_T65 x139001 x3).f0)).bind fun t142 => (if t142 = true then ((spec_l01In.f ((rd_T65 x139001 x3).f1) 1 (wrap64 (x139000 - 1))).bind fun t143 => (if t143 = true then (if x3 > 0 then (if 0 ≤ (wrap64 (x3 - 1)) then (if (wrap64 (x3 - 1)) < (x139001.length : Int) then ((spec_l01Before.f k ((rd_T65 x139001 (wrap64 (x3 - 1))).f0) ((rd_T65 x139001 x3).f0)).bind fun t145 => (if t145 = true then (spec_l03Is.l0 k (wrap64 (x3 + 1)) x139000 x139001) else (some false))) else (none)) else (none)) else (spec_l03Is.l0 k (wrap64 (x3 + 1)) x139000 x139001)) else (some false))) else (some false))) else (none)) else (some true)
end
def spec_l03Is.f (k : Nat) (a0_0 : Int) (l0_1 : List (S65)) : Option (Bool) := (spec_l03Prime.f a0_0).bind fun t139 => (if t139 = true then (spec_l03Is.j0 k (decide ((l0_1.length : Int) > 200)) a0_0 l0_1) else (spec_l03Is.j0 k true a0_0 l0_1))
def spec_l03Is.T7 : Bool × List (List Nat × List Nat) := (true, [([], []), ([0], [0]), ([1], [1]), ([2], [2]), ([3, 2], [3]), ([4], [4]), ([5, 4], [4, 5]), ([4], [4]), ([7, 4], [4, 7]), ([8, 4], [4, 8]), ([6, 9, 4, 4], [4, 6, 9]), ([10, 4], [4, 10]), ([4, 11], [4, 11]), ([12, 10], [12]), ([13], [13]), ([14, 13], [13, 14]), ([15, 13, 13], [13, 15]), ([16], [16]), ([17, 16], [16, 17]), ([16], [16]), ([19, 16], [16, 19]), ([18, 20, 16], [16, 18, 20]), ([21, 16], [16, 21]), ([22, 16], [16, 22]), ([16], [16]), ([24, 16], [16, 24]), ([23, 25, 16, 16], [16, 23, 25]), ([26, 16], [16, 26]), ([16, 27, 13], [13, 16, 27]), ([13, 28], [13, 28])])
def spec_l03Is.B7 : List Nat := [0, 1, 3, 7, 15, 31, 63, 31, 159, 415, 1023, 2047, 4095, 8191, 16383, 32767, 65535, 131071, 262143, 131071, 655359, 2097151, 4194303, 8388607, 131071, 16908287, 67108863, 134217727, 268435455, 536870911]
theorem spec_l03Is.tab7 : rtab .any (opsOf Try.f48 7) = spec_l03Is.T7 := by kernel_rfl
theorem spec_l03Is.bits7 : waitsOk spec_l03Is.T7.2 spec_l03Is.B7 = true := by kernel_rfl
theorem spec_l03Is.calls (k : Nat) (a0_0 : Int) (A0_1 : Option Addr) (c0_1 : Nat) (l0_1 : List (S65)) (r : Bool) (w : World) (hr0_1 : Kd.C k65 w A0_1 l0_1.length l0_1) (hc0_1 : l0_1.length ≤ c0_1) (h : spec_l03Is.f k a0_0 l0_1 = some r) :
 Calls Try.prog 48 #[.agg #[.int .i64 a0_0, .slice A0_1 l0_1.length c0_1]] w fun e w' => e = .returned (.bool r) ∧ Below w.heap.size w w' := by
 have hu28 := Try.underlying28
 have hu65 := Try.underlying65
 have HR0_1 := am hr0_1
 have HC0_1 := am hc0_1
 clear hr0_1 hc0_1
 have HB := am (Below.refl w.heap.size w)
 have H : ((spec_l03Prime.f a0_0).bind fun t139 => (if t139 = true then (spec_l03Is.j0 k (decide ((l0_1.length : Int) > 200)) a0_0 l0_1) else (spec_l03Is.j0 k true a0_0 l0_1))) = some r := h
 clear h
 have HC2 := am H
 clear H
 go_enter Try.func48, Try.ntmps48
 go_upto_region 1 with (((with_reducible refine gate_dst (N := 1) rfl ?_); (try (refine gate_guard (by rfl) ?_; dsimp only)); refine box_event ?hg (N := 1) ?hd (cs := #[.int .i64 a0_0, .slice A0_1 l0_1.length c0_1]) (t := 28) ?hr ?_; (case hd => rfl); (case hg => rfl); (case hr => (go_simp; done)); intro gb138 hg w3 hbox hb; have n0_ := am (below_step (by repeat ((with_reducible exact HB.out))) hb); have n1_ := am (hbox); have n2_ := am ((by rw [hg]; exact (below_size (by repeat ((with_reducible exact HB.out)))) : w.heap.size ≤ gb138)); have n3_ := am ((by rw [hg]; exact (below_size (by repeat ((with_reducible exact HB.out)))) : w.heap.size ≤ gb138)); clear HB; have HB := n0_; have BK138 := n1_; have GW138 := n2_; have GE138 := n3_; clear n0_ n1_ n2_ n3_; clear hb hbox hg))
 (try simp only [Act.put, q1, q2, q3])
 go_cut [14] (fun v14 wc => ∃ (kq : Nat) (x14_1 : Bool), v14 = .bool x14_1 ∧ Aside0 (spec_l03Is.j0 kq x14_1 a0_0 l0_1 = some r) ∧ Aside0 (kq ≤ k) ∧ Aside0 (wc.heap[gb138]? = some (.cells #[.int .i64 a0_0, (.slice A0_1 l0_1.length c0_1)] 28 (0, 0))) ∧ Aside0 (Below w.heap.size w wc))
 case first =>
  have H := HC2.out
  clear HC2
  replace H := Option.bind_eq_some_iff.mp H
  obtain ⟨t139, A40, H⟩ := H
  replace H : (if t139 = true then (spec_l03Is.j0 k (decide ((l0_1.length : Int) > 200)) a0_0 l0_1) else (spec_l03Is.j0 k true a0_0 l0_1)) = some r := H
  have A4 := am A40
  clear A40
  by_cases c5 : t139 = true
  · subst c5
    have H1 : (spec_l03Is.j0 k (decide ((l0_1.length : Int) > 200)) a0_0 l0_1) = some r := by rw [if_pos rfl] at H; exact H
    clear H
    have H := H1
    clear H1
    have H' := am H
    clear H
    have hcz6_0 : w3.cell? ⟨gb138, 0, none⟩ = some (.int .i64 a0_0) := (blk_cell BK138.out 0).trans rfl
    have hcz6_1 : w3.cell? ⟨gb138, 1, none⟩ = some (.slice A0_1 l0_1.length c0_1) := (blk_cell BK138.out 1).trans rfl
    have hfz6_0 := blk_frozen BK138.out 0
    have hfz6_1 := blk_frozen BK138.out 1
    go_wp2_with (((with_reducible refine gate_callee (f := 75) rfl ?_); refine goesL_ (some 7) rfl rfl Try.func75 (by kernel_rfl) rfl #[.int .i64 a0_0] rfl (by (try simp only [List.map_toArray, List.map_cons, List.map_nil]); rfl) ?_; (with_reducible refine (spec_l03Prime.calls a0_0 true _ A4.out).mono ?_); rintro e w' ⟨rfl, ⟨nd, rfl⟩⟩; refine ⟨_, rfl, ?_⟩))
    go_meet
    case rel => exact ⟨_, (decide ((l0_1.length : Int) > 200)), (by rfl), H', ⟨by omega⟩, ⟨by (with_reducible repeat (refine blk_drewN ?_ _)); exact BK138.out⟩, ⟨by repeat ((with_reducible first | exact HB.out | apply pw_below_drewN))⟩⟩
  · replace c5 := Bool.eq_false_iff.mpr c5
    subst c5
    have H1 : (spec_l03Is.j0 k true a0_0 l0_1) = some r := by rw [if_neg (show ¬ (false = true) by decide)] at H; exact H
    clear H
    have H := H1
    clear H1
    have H' := am H
    clear H
    have hcz7_0 : w3.cell? ⟨gb138, 0, none⟩ = some (.int .i64 a0_0) := (blk_cell BK138.out 0).trans rfl
    have hcz7_1 : w3.cell? ⟨gb138, 1, none⟩ = some (.slice A0_1 l0_1.length c0_1) := (blk_cell BK138.out 1).trans rfl
    have hfz7_0 := blk_frozen BK138.out 0
    have hfz7_1 := blk_frozen BK138.out 1
    go_wp2_with (((with_reducible refine gate_callee (f := 75) rfl ?_); refine goesL_ (some 7) rfl rfl Try.func75 (by kernel_rfl) rfl #[.int .i64 a0_0] rfl (by (try simp only [List.map_toArray, List.map_cons, List.map_nil]); rfl) ?_; (with_reducible refine (spec_l03Prime.calls a0_0 false _ A4.out).mono ?_); rintro e w' ⟨rfl, ⟨nd, rfl⟩⟩; refine ⟨_, rfl, ?_⟩))
    go_meet
    case rel => exact ⟨_, (true), (by rfl), H', ⟨by omega⟩, ⟨by (with_reducible repeat (refine blk_drewN ?_ _)); exact BK138.out⟩, ⟨by repeat ((with_reducible first | exact HB.out | apply pw_below_drewN))⟩⟩
 case rest =>
  clear HC2
  try clear p2
  try clear c4
  try clear c5
  try clear c7
  try clear hcz6_0
  try clear hcz6_1
  try clear hcz7_0
  try clear hcz7_1
  try clear hfz6_0
  try clear hfz6_1
  try clear hfz7_0
  try clear hfz7_1
  obtain ⟨kq, x14_1, rfl, HA, HJ1, BK138, HB⟩ := hcut
  cases kq with
  | zero => exact absurd HA.out (by simp [spec_l03Is.j0])
  | succ kj1 =>
   have H := HA.out
   clear HA
   simp only [spec_l03Is.j0] at H
   by_cases c8 : x14_1 = true
   · subst c8
     have H1 : (some false) = some r := by rw [if_pos rfl] at H; exact H
     clear H
     have H := H1
     clear H1
     obtain rfl := Option.some.inj H
     go_wp2
     go_ret
     exact ⟨by rfl, by repeat ((with_reducible exact HB.out))⟩
   · replace c8 := Bool.eq_false_iff.mpr c8
     subst c8
     have H1 : (spec_l03Is.l0 kj1 0 a0_0 l0_1) = some r := by rw [if_neg (show ¬ (false = true) by decide)] at H; exact H
     clear H
     have H := H1
     clear H1
     have H' := am H
     clear H
     go_wp2
     go_loopg [3] kj1 (fun kq v3 w' => ∃ (x3_2 : Int), v3 = .int .i64 x3_2 ∧ Aside0 (spec_l03Is.l0 kq x3_2 a0_0 l0_1 = some r) ∧ Aside0 (kq ≤ kj1) ∧ Aside0 (w'.heap[gb138]? = some (.cells #[.int .i64 a0_0, (.slice A0_1 l0_1.length c0_1)] 28 (0, 0))) ∧ Aside0 (Below w.heap.size w w'))
     case atStart => exact ⟨(0), (by rfl), H', ⟨Nat.le_refl _⟩, ⟨by (with_reducible repeat (refine blk_drew ?_)); exact BK138.out⟩, ⟨by repeat ((with_reducible exact HB.out))⟩⟩
     case round =>
      clear H'
      try clear p2
      try clear c4
      try clear c5
      try clear c7
      try clear c8
      try clear hcz6_0
      try clear hcz6_1
      try clear hcz7_0
      try clear hcz7_1
      try clear hfz6_0
      try clear hfz6_1
      try clear hfz7_0
      try clear hfz7_1
      try clear p2
      obtain ⟨x3_2, rfl, HA, HK2, BK138, HB⟩ := hrel
      cases gk with
      | zero => exact absurd HA.out (by simp [spec_l03Is.l0])
      | succ k2 =>
       have H := HA.out
       clear HA
       simp only [spec_l03Is.l0] at H
       by_cases c9 : x3_2 < (l0_1.length : Int)
       · rw [if_pos c9] at H
         have c9b0 : decide (x3_2 < (l0_1.length : Int)) = true := decide_eq_true c9
         clear c9
         by_cases c10 : 0 ≤ x3_2
         · rw [if_pos c10] at H
           have c10b0 : decide (0 ≤ x3_2) = true := decide_eq_true c10
           clear c10
           replace H := Option.bind_eq_some_iff.mp H
           obtain ⟨t142, A110, H⟩ := H
           replace H : (if t142 = true then ((spec_l01In.f ((rd_T65 l0_1 x3_2).f1) 1 (wrap64 (a0_0 - 1))).bind fun t143 => (if t143 = true then (if x3_2 > 0 then (if 0 ≤ (wrap64 (x3_2 - 1)) then (if (wrap64 (x3_2 - 1)) < (l0_1.length : Int) then ((spec_l01Before.f k2 ((rd_T65 l0_1 (wrap64 (x3_2 - 1))).f0) ((rd_T65 l0_1 x3_2).f0)).bind fun t145 => (if t145 = true then (spec_l03Is.l0 k2 (wrap64 (x3_2 + 1)) a0_0 l0_1) else (some false))) else (none)) else (none)) else (spec_l03Is.l0 k2 (wrap64 (x3_2 + 1)) a0_0 l0_1)) else (some false))) else (some false)) = some r := H
           have A11 := am A110
           clear A110
           by_cases c12 : t142 = true
           · subst c12
             have H1 : ((spec_l01In.f ((rd_T65 l0_1 x3_2).f1) 1 (wrap64 (a0_0 - 1))).bind fun t143 => (if t143 = true then (if x3_2 > 0 then (if 0 ≤ (wrap64 (x3_2 - 1)) then (if (wrap64 (x3_2 - 1)) < (l0_1.length : Int) then ((spec_l01Before.f k2 ((rd_T65 l0_1 (wrap64 (x3_2 - 1))).f0) ((rd_T65 l0_1 x3_2).f0)).bind fun t145 => (if t145 = true then (spec_l03Is.l0 k2 (wrap64 (x3_2 + 1)) a0_0 l0_1) else (some false))) else (none)) else (none)) else (spec_l03Is.l0 k2 (wrap64 (x3_2 + 1)) a0_0 l0_1)) else (some false))) = some r := by rw [if_pos rfl] at H; exact H
             clear H
             have H := H1
             clear H1
             replace H := Option.bind_eq_some_iff.mp H
             obtain ⟨t143, A130, H⟩ := H
             replace H : (if t143 = true then (if x3_2 > 0 then (if 0 ≤ (wrap64 (x3_2 - 1)) then (if (wrap64 (x3_2 - 1)) < (l0_1.length : Int) then ((spec_l01Before.f k2 ((rd_T65 l0_1 (wrap64 (x3_2 - 1))).f0) ((rd_T65 l0_1 x3_2).f0)).bind fun t145 => (if t145 = true then (spec_l03Is.l0 k2 (wrap64 (x3_2 + 1)) a0_0 l0_1) else (some false))) else (none)) else (none)) else (spec_l03Is.l0 k2 (wrap64 (x3_2 + 1)) a0_0 l0_1)) else (some false)) = some r := H
             have A13 := am A130
             clear A130
             by_cases c14 : t143 = true
             · subst c14
               have H1 : (if x3_2 > 0 then (if 0 ≤ (wrap64 (x3_2 - 1)) then (if (wrap64 (x3_2 - 1)) < (l0_1.length : Int) then ((spec_l01Before.f k2 ((rd_T65 l0_1 (wrap64 (x3_2 - 1))).f0) ((rd_T65 l0_1 x3_2).f0)).bind fun t145 => (if t145 = true then (spec_l03Is.l0 k2 (wrap64 (x3_2 + 1)) a0_0 l0_1) else (some false))) else (none)) else (none)) else (spec_l03Is.l0 k2 (wrap64 (x3_2 + 1)) a0_0 l0_1)) = some r := by rw [if_pos rfl] at H; exact H
               clear H
               have H := H1
               clear H1
               by_cases c15 : x3_2 > 0
               · rw [if_pos c15] at H
                 have c15b0 : decide (0 < x3_2) = true := decide_eq_true c15
                 clear c15
                 obtain ⟨ji16, hji16⟩ : ∃ j_ : Int, (wrap64 (x3_2 - 1)) = j_ := ⟨_, rfl⟩
                 replace H : (if 0 ≤ (ji16) then (if (ji16) < (l0_1.length : Int) then ((spec_l01Before.f k2 ((rd_T65 l0_1 (ji16)).f0) ((rd_T65 l0_1 x3_2).f0)).bind fun t145 => (if t145 = true then (spec_l03Is.l0 k2 (wrap64 (x3_2 + 1)) a0_0 l0_1) else (some false))) else (none)) else (none)) = some r := by (rw [hji16] at H; exact H)
                 (try rw [hji16] at A11)
                 (try rw [hji16] at A13)
                 have hji16w : (IntKind.i64.wrap (x3_2 - 1)) = ji16 := (i64_w _).trans hji16
                 by_cases c17 : 0 ≤ (ji16)
                 · rw [if_pos c17] at H
                   have c17b0 : decide (0 ≤ (ji16)) = true := decide_eq_true c17
                   clear c17
                   by_cases c18 : (ji16) < (l0_1.length : Int)
                   · rw [if_pos c18] at H
                     have c18b0 : decide ((ji16) < (l0_1.length : Int)) = true := decide_eq_true c18
                     clear c18
                     replace H := Option.bind_eq_some_iff.mp H
                     obtain ⟨t145, A190, H⟩ := H
                     replace H : (if t145 = true then (spec_l03Is.l0 k2 (wrap64 (x3_2 + 1)) a0_0 l0_1) else (some false)) = some r := H
                     have A19 := am A190
                     clear A190
                     by_cases c20 : t145 = true
                     · subst c20
                       have H1 : (spec_l03Is.l0 k2 (wrap64 (x3_2 + 1)) a0_0 l0_1) = some r := by rw [if_pos rfl] at H; exact H
                       clear H
                       have H := H1
                       clear H1
                       have H' := am H
                       clear H
                       have hcz21_0 : wr.cell? ⟨gb138, 0, none⟩ = some (.int .i64 a0_0) := (blk_cell BK138.out 0).trans rfl
                       have hcz21_1 : wr.cell? ⟨gb138, 1, none⟩ = some (.slice A0_1 l0_1.length c0_1) := (blk_cell BK138.out 1).trans rfl
                       have hfz21_0 := blk_frozen BK138.out 0
                       have hfz21_1 := blk_frozen BK138.out 1
                       have p140 : 0 ≤ (x3_2 : Int) := of_decide_eq_true (by (with_reducible assumption))
                       have q140 : x3_2 < (l0_1.length : Int) := of_decide_eq_true (by (with_reducible assumption))
                       obtain ⟨ad140, A140_0, c140_0, e140, hx140_0, hx140_1, hl140_0, hi140_0⟩ := at_T65 HR0_1.out x3_2 p140 q140
                       cases e140
                       replace hx140_0 := (HB.out.cell (World.block_lt_of_cell? w _ hx140_0)).trans hx140_0
                       replace hx140_1 := (HB.out.cell (World.block_lt_of_cell? w _ hx140_1)).trans hx140_1
                       have HR140_0 := am hi140_0
                       have HC140_0 := am hl140_0
                       clear hi140_0 hl140_0
                       replace p140 := eq_true p140
                       replace q140 := eq_true q140
                       try go_wp2_with (((with_reducible refine gate_dst (N := 4) rfl ?_); (try (refine gate_guard (by rfl) ?_; dsimp only)); refine box_event ?hg (N := 4) ?hd (cs := #[.slice none 0 0, .int .i64 0]) (t := 65) ?hr ?_; (case hd => rfl); (case hg => rfl); (case hr => (go_simp; done)); intro gb141 hg w22 hbox hb; have n0_ := am (blk_below (g := gb138) (o := .cells #[.int .i64 a0_0, .slice (some ad140) l0_1.length c0_1] 28 (0, 0)) (by exact BK138.out) hb); have n1_ := am (below_step (by repeat ((with_reducible exact HB.out))) hb); have n2_ := am (hbox); have n3_ := am ((by rw [hg]; exact (below_size (by repeat ((with_reducible exact HB.out)))) : w.heap.size ≤ gb141)); have n4_ := am ((by rw [hg]; exact (below_size (by repeat ((with_reducible exact HB.out)))) : w.heap.size ≤ gb141)); have n5_ := am ((by rw [hg]; exact Nat.ne_of_lt (blk_lt (g := gb138) (o := .cells #[.int .i64 a0_0, .slice (some ad140) l0_1.length c0_1] 28 (0, 0)) (by exact BK138.out)) : gb138 ≠ gb141)); have n6_ := am ((by rw [hg]; exact Nat.ne_of_gt (blk_lt (g := gb138) (o := .cells #[.int .i64 a0_0, .slice (some ad140) l0_1.length c0_1] 28 (0, 0)) (by exact BK138.out)) : gb141 ≠ gb138)); clear BK138; clear HB; have BK138 := n0_; have HB := n1_; have BK141 := n2_; have GW141 := n3_; have GE141 := n4_; have NB138_141 := n5_; have NB141_138 := n6_; clear n0_ n1_ n2_ n3_ n4_ n5_ n6_; clear hb hbox hg; have hnb23 := NB141_138.out; have hnc23 := NB138_141.out; have hcz24_0 : w22.cell? ⟨gb141, 0, none⟩ = some (.slice none 0 0) := (blk_cell BK141.out 0).trans rfl; have hcz24_1 : w22.cell? ⟨gb141, 1, none⟩ = some (.int .i64 0) := (blk_cell BK141.out 1).trans rfl; have hfz24_0 := blk_frozen BK141.out 0; have hfz24_1 := blk_frozen BK141.out 1))
                       have n0_ : Aside0 (((w22.setCell ⟨gb141, 0, none⟩ (.slice A140_0 ((rd_T65 l0_1 x3_2).f0).length c140_0)).setCell ⟨gb141, 1, none⟩ (.int .i64 ((rd_T65 l0_1 x3_2).f1))).heap[gb138]? = some (.cells #[.int .i64 a0_0, .slice (some ad140) l0_1.length c0_1] 28 (0, 0))) := ⟨by (with_reducible repeat (refine blk_drew ?_)); refine blk_far ?_ NB138_141.out _; (with_reducible repeat (refine blk_drew ?_)); refine blk_far ?_ NB138_141.out _; (with_reducible repeat (refine blk_drew ?_)); exact BK138.out⟩
                       have n1_ : Aside0 (((w22.setCell ⟨gb141, 0, none⟩ (.slice A140_0 ((rd_T65 l0_1 x3_2).f0).length c140_0)).setCell ⟨gb141, 1, none⟩ (.int .i64 ((rd_T65 l0_1 x3_2).f1))).heap[gb141]? = some (.cells #[.slice A140_0 ((rd_T65 l0_1 x3_2).f0).length c140_0, .int .i64 ((rd_T65 l0_1 x3_2).f1)] 65 (0, 0))) := ⟨by (with_reducible repeat (refine blk_drew ?_)); refine blk_put (cs := #[.slice A140_0 ((rd_T65 l0_1 x3_2).f0).length c140_0, .int .i64 0]) ?_ 1 _ rfl; (with_reducible repeat (refine blk_drew ?_)); refine blk_put (cs := #[.slice none 0 0, .int .i64 0]) ?_ 0 _ rfl; (with_reducible repeat (refine blk_drew ?_)); exact BK141.out⟩
                       have n2_ : Aside0 (Below w.heap.size w ((w22.setCell ⟨gb141, 0, none⟩ (.slice A140_0 ((rd_T65 l0_1 x3_2).f0).length c140_0)).setCell ⟨gb141, 1, none⟩ (.int .i64 ((rd_T65 l0_1 x3_2).f1)))) := ⟨by repeat ((with_reducible first | exact HB.out | refine below_set ?_ GE141.out))⟩
                       (try clear BK138)
                       (try clear BK141)
                       (try clear HB)
                       generalize ((w22.setCell ⟨gb141, 0, none⟩ (.slice A140_0 ((rd_T65 l0_1 x3_2).f0).length c140_0)).setCell ⟨gb141, 1, none⟩ (.int .i64 ((rd_T65 l0_1 x3_2).f1))) = w25 at n0_ n1_ n2_ ⊢
                       have BK138 := n0_
                       have BK141 := n1_
                       have HB := n2_
                       clear n0_ n1_ n2_
                       have n0_ := am (blk_drew BK138.out)
                       have n1_ := am (blk_drew BK141.out)
                       have n2_ := am (below_drew1 HB.out)
                       clear BK138
                       clear BK141
                       clear HB
                       have BK138 := n0_
                       have BK141 := n1_
                       have HB := n2_
                       clear n0_ n1_ n2_
                       have p144 : 0 ≤ ((ji16) : Int) := of_decide_eq_true (by (with_reducible assumption))
                       have q144 : (ji16) < (l0_1.length : Int) := of_decide_eq_true (by (with_reducible assumption))
                       obtain ⟨ad144, A144_0, c144_0, e144, hx144_0, hx144_1, hl144_0, hi144_0⟩ := at_T65 HR0_1.out (ji16) p144 q144
                       have hw144_1 := hx144_1
                       have hw144_0 := hx144_0
                       obtain rfl : ad140 = ad144 := (by injection e144)
                       replace hx144_0 := (HB.out.cell (World.block_lt_of_cell? w _ hx144_0)).trans hx144_0
                       replace hx144_1 := (HB.out.cell (World.block_lt_of_cell? w _ hx144_1)).trans hx144_1
                       have HR144_0 := am hi144_0
                       have HC144_0 := am hl144_0
                       clear hi144_0 hl144_0
                       replace p144 := eq_true p144
                       replace q144 := eq_true q144
                       refine start_ (n := 30) (S := fun w' => w'.cell? ⟨gb141, 0, none⟩ = some (.slice A140_0 ((rd_T65 l0_1 x3_2).f0).length c140_0) ∧ w'.cell? ⟨gb141, 1, none⟩ = some (.int .i64 ((rd_T65 l0_1 x3_2).f1)) ∧ w'.cell? ⟨gb138, 0, none⟩ = some (.int .i64 a0_0) ∧ w'.cell? ⟨gb138, 1, none⟩ = some (.slice (some ad140) l0_1.length c0_1) ∧ w'.cell? (ad140.add (((ji16)).toNat * 2)) = some (.slice A144_0 ((rd_T65 l0_1 (ji16)).f0).length c144_0) ∧ w'.cell? ⟨(ad140.add (((ji16)).toNat * 2)).block, (ad140.add (((ji16)).toNat * 2)).off + 1, none⟩ = some (.int .i64 ((rd_T65 l0_1 (ji16)).f1))) (ds := []) (bs 0 30) (by kernel_rfl) rfl rfl ⟨(blk_cell BK141.out 0).trans rfl, (blk_cell BK141.out 1).trans rfl, (blk_cell BK138.out 0).trans rfl, (blk_cell BK138.out 1).trans rfl, ((HB.out.cell (World.block_lt_of_cell? w _ hw144_0)).trans hw144_0), ((HB.out.cell (World.block_lt_of_cell? w _ hw144_1)).trans hw144_1)⟩ (fun hHeld => ?_); refine with_tabW spec_l03Is.tab7 spec_l03Is.bits7 (fun HT_ HW_ => ?_)
                       generalize w25.drew = w26 at BK138 BK141 HB HR144_0 hx144_0 hx144_1 hHeld ⊢
                       refine pure_ (i := 0) (N := some 27) (v := ?_) (a' := ?_) (bs 1 30) rfl rfl (any_of HT_.out (by kernel_rfl)) (fun _ _ _ h => h) (Or.inl ⟨by rfl, ?_⟩) ?_ ?_; rotate_left; intro w'; go_simp; with_reducible rfl; rotate_left; simp only [Act.put, q1, q2, q3, i64_w, i32_w]; rfl
                       refine take_ (i := 1) (N := some 28) (v := ?_) (a' := ?_) (bs 3 30) rfl rfl (take_ofW HT_.out HW_.out (by kernel_rfl)) (fun _ _ _ h => h) (Or.inl ⟨by rfl, ?_⟩) hHeld ?_ ?_; rotate_left; rintro w' ⟨s0, s1, s2, s3, s4, s5⟩; go_simp; with_reducible rfl; rotate_left; simp only [Act.put, q1, q2, q3, i64_w, i32_w]; rfl
                       refine one_ (i := 2) (N := some 29) (bs 7 30) rfl rfl (one_of HT_.out (by kernel_rfl)) (by decide) (fun K hK => ?_)
                       refine goes_ Try.func76 (by kernel_rfl) rfl #[.slice A140_0 ((rd_T65 l0_1 x3_2).f0).length c140_0] (by rfl) rfl rfl (by (try simp only [List.map_toArray, List.map_cons, List.map_nil]); rfl) ?_
                       with_reducible refine (spec_l01Is.calls k2 _ _ ((rd_T65 l0_1 x3_2).f0) true _ ?side1 ?side2 A11.out).mono ?_
                       (case side1 => repeat (exact (Kd.C_below HR140_0.out HB.out)))
                       (case side2 => exact HC140_0.out)
                       rintro e w27 ⟨rfl, hb⟩
                       refine ⟨_, rfl, ?_⟩
                       have n0_ := am (blk_below (g := gb138) (o := .cells #[.int .i64 a0_0, .slice (some ad140) l0_1.length c0_1] 28 (0, 0)) (by exact BK138.out) hb)
                       have n1_ := am (blk_below (g := gb141) (o := .cells #[.slice A140_0 ((rd_T65 l0_1 x3_2).f0).length c140_0, .int .i64 ((rd_T65 l0_1 x3_2).f1)] 65 (0, 0)) (by exact BK141.out) hb)
                       have n2_ := am (below_step (by repeat ((with_reducible exact HB.out))) hb)
                       clear BK138
                       clear BK141
                       clear HB
                       have BK138 := n0_
                       have BK141 := n1_
                       have HB := n2_
                       clear n0_ n1_ n2_
                       (try clear hb)
                       (try clear hb2)
                       (try clear hk)
                       (try clear hi)
                       refine hK.out _ _ ⟨(blk_cell BK141.out 0).trans rfl, (blk_cell BK141.out 1).trans rfl, (blk_cell BK138.out 0).trans rfl, (blk_cell BK138.out 1).trans rfl, ((HB.out.cell (World.block_lt_of_cell? w _ hw144_0)).trans hw144_0), ((HB.out.cell (World.block_lt_of_cell? w _ hw144_1)).trans hw144_1)⟩ (fun hHeld => ?_)
                       clear hK K
                       refine norm_ (a' := ?_) ?_ ?_; rotate_left; show Act.put _ (some 29) _ = _; simp only [Act.put, q1, q2, q3, i64_w, i32_w]; rfl
                       refine pure_ (i := 3) (N := some 30) (v := ?_) (a' := ?_) (bs 15 30) rfl rfl (any_of HT_.out (by kernel_rfl)) (fun _ _ _ h => h) (Or.inl ⟨by rfl, ?_⟩) ?_ ?_; rotate_left; intro w'; go_simp; with_reducible rfl; rotate_left; simp only [Act.put, q1, q2, q3, i64_w, i32_w]; rfl
                       refine pure_ (i := 4) (N := some 31) (v := ?_) (a' := ?_) (bs 31 30) rfl rfl (any_of HT_.out (by kernel_rfl)) (fun _ _ _ h => h) (Or.inl ⟨by rfl, ?_⟩) ?_ ?_; rotate_left; intro w'; go_simp; with_reducible rfl; rotate_left; simp only [Act.put, q1, q2, q3, i64_w, i32_w]; rfl
                       refine pure_ (i := 5) (N := some 32) (v := ?_) (a' := ?_) (bs 63 30) rfl rfl (any_of HT_.out (by kernel_rfl)) (fun _ _ _ h => h) (Or.inl ⟨by rfl, ?_⟩) ?_ ?_; rotate_left; intro w'; go_simp; with_reducible rfl; rotate_left; simp only [Act.put, q1, q2, q3, i64_w, i32_w]; rfl
                       refine pure_ (i := 7) (N := some 34) (v := ?_) (a' := ?_) (bs 191 30) rfl rfl (any_of HT_.out (by kernel_rfl)) (fun _ _ _ h => h) (Or.inl ⟨by rfl, ?_⟩) ?_ ?_; rotate_left; intro w'; go_simp; with_reducible rfl; rotate_left; simp only [Act.put, q1, q2, q3, i64_w, i32_w]; rfl
                       refine take_ (i := 6) (N := some 33) (v := ?_) (a' := ?_) (bs 255 30) rfl rfl (take_ofW HT_.out HW_.out (by kernel_rfl)) (fun _ _ _ h => h) (Or.inl ⟨by rfl, ?_⟩) hHeld ?_ ?_; rotate_left; rintro w' ⟨s0, s1, s2, s3, s4, s5⟩; go_simp; with_reducible rfl; rotate_left; simp only [Act.put, q1, q2, q3, i64_w, i32_w]; rfl
                       refine take_ (i := 8) (N := some 35) (v := ?_) (a' := ?_) (bs 511 30) rfl rfl (take_ofW HT_.out HW_.out (by kernel_rfl)) (fun _ _ _ h => h) (Or.inl ⟨by rfl, ?_⟩) hHeld ?_ ?_; rotate_left; rintro w' ⟨s0, s1, s2, s3, s4, s5⟩; go_simp; with_reducible rfl; rotate_left; simp only [Act.put, q1, q2, q3, i64_w, i32_w]; rfl
                       refine pure_ (i := 9) (N := some 36) (v := ?_) (a' := ?_) (bs 1023 30) rfl rfl (any_of HT_.out (by kernel_rfl)) (fun _ _ _ h => h) (Or.inl ⟨by rfl, ?_⟩) ?_ ?_; rotate_left; intro w'; go_simp; with_reducible rfl; rotate_left; simp only [Act.put, q1, q2, q3, i64_w, i32_w]; rfl
                       refine one_ (i := 10) (N := some 37) (bs 2047 30) rfl rfl (one_of HT_.out (by kernel_rfl)) (by decide) (fun K hK => ?_)
                       refine goes_ Try.func67 (by kernel_rfl) rfl #[.int .i64 ((rd_T65 l0_1 x3_2).f1), .int .i64 1, .int .i64 (wrap64 (a0_0 - 1))] (by rfl) rfl rfl (by (try simp only [List.map_toArray, List.map_cons, List.map_nil]); rfl) ?_
                       with_reducible refine (spec_l01In.calls ((rd_T65 l0_1 x3_2).f1) 1 (wrap64 (a0_0 - 1)) true _ A13.out).mono ?_
                       rintro e w' ⟨rfl, ⟨nd, rfl⟩⟩
                       refine ⟨_, rfl, ?_⟩
                       refine hK.out _ _ ⟨(blk_cell BK141.out 0).trans rfl, (blk_cell BK141.out 1).trans rfl, (blk_cell BK138.out 0).trans rfl, (blk_cell BK138.out 1).trans rfl, ((HB.out.cell (World.block_lt_of_cell? w _ hw144_0)).trans hw144_0), ((HB.out.cell (World.block_lt_of_cell? w _ hw144_1)).trans hw144_1)⟩ (fun hHeld => ?_)
                       clear hK K
                       refine norm_ (a' := ?_) ?_ ?_; rotate_left; show Act.put _ (some 37) _ = _; simp only [Act.put, q1, q2, q3, i64_w, i32_w]; rfl
                       refine pure_ (i := 11) (N := some 38) (v := ?_) (a' := ?_) (bs 4095 30) rfl rfl (any_of HT_.out (by kernel_rfl)) (fun _ _ _ h => h) (Or.inl ⟨by rfl, ?_⟩) ?_ ?_; rotate_left; intro w'; go_simp; with_reducible rfl; rotate_left; simp only [Act.put, q1, q2, q3, i64_w, i32_w]; rfl
                       refine pure_ (i := 12) (N := some 39) (v := ?_) (a' := ?_) (bs 8191 30) rfl rfl (any_of HT_.out (by kernel_rfl)) (fun _ _ _ h => h) (Or.inl ⟨by rfl, ?_⟩) ?_ ?_; rotate_left; intro w'; go_simp; with_reducible rfl; rotate_left; simp only [Act.put, q1, q2, q3, i64_w, i32_w]; rfl
                       refine pure_ (i := 13) (N := some 40) (v := ?_) (a' := ?_) (bs 16383 30) rfl rfl (any_of HT_.out (by kernel_rfl)) (fun _ _ _ h => h) (Or.inl ⟨by rfl, ?_⟩) ?_ ?_; rotate_left; intro w'; go_simp; with_reducible rfl; rotate_left; simp only [Act.put, q1, q2, q3, i64_w, i32_w]; rfl
                       refine pure_ (i := 14) (N := some 41) (v := ?_) (a' := ?_) (bs 32767 30) rfl rfl (any_of HT_.out (by kernel_rfl)) (fun _ _ _ h => h) (Or.inl ⟨by rfl, ?_⟩) ?_ ?_; rotate_left; intro w'; go_simp; with_reducible rfl; rotate_left; simp only [Act.put, q1, q2, q3, i64_w, i32_w]; rfl
                       refine pure_ (i := 15) (N := some 42) (v := ?_) (a' := ?_) (bs 65535 30) rfl rfl (any_of HT_.out (by kernel_rfl)) (fun _ _ _ h => h) (Or.inl ⟨by rfl, ?_⟩) ?_ ?_; rotate_left; intro w'; go_simp; with_reducible rfl; rotate_left; simp only [Act.put, q1, q2, q3, i64_w, i32_w]; rfl
                       refine pure_ (i := 16) (N := some 43) (v := ?_) (a' := ?_) (bs 131071 30) rfl rfl (any_of HT_.out (by kernel_rfl)) (fun _ _ _ h => h) (Or.inl ⟨by rfl, ?_⟩) ?_ ?_; rotate_left; intro w'; go_simp; with_reducible rfl; rotate_left; simp only [Act.put, q1, q2, q3, i64_w, i32_w]; rfl
                       refine pure_ (i := 17) (N := some 44) (v := ?_) (a' := ?_) (bs 262143 30) rfl rfl (any_of HT_.out (by kernel_rfl)) (fun _ _ _ h => h) (Or.inl ⟨by rfl, ?_⟩) ?_ ?_; rotate_left; intro w'; go_simp; with_reducible rfl; rotate_left; simp only [Act.put, q1, q2, q3, i64_w, i32_w]; rfl
                       refine pure_ (i := 19) (N := some 46) (v := ?_) (a' := ?_) (bs 786431 30) rfl rfl (any_of HT_.out (by kernel_rfl)) (fun _ _ _ h => h) (Or.inl ⟨by rfl, ?_⟩) ?_ ?_; rotate_left; intro w'; go_simp; with_reducible rfl; rotate_left; simp only [Act.put, q1, q2, q3, i64_w, i32_w]; rfl
                       refine pure_ (i := 20) (N := some 47) (v := ?_) (a' := ?_) (bs 1835007 30) rfl rfl (any_of HT_.out (by kernel_rfl)) (fun _ _ _ h => h) (Or.inl ⟨by rfl, ?_⟩) ?_ ?_; rotate_left; intro w'; go_simp; with_reducible rfl; rotate_left; simp only [Act.put, q1, q2, q3, i64_w, i32_w]; rfl
                       refine pure_ (i := 24) (N := some 51) (v := ?_) (a' := ?_) (bs 18612223 30) rfl rfl (any_of HT_.out (by kernel_rfl)) (fun _ _ _ h => h) (Or.inl ⟨by rfl, ?_⟩) ?_ ?_; rotate_left; intro w'; go_simp; with_reducible rfl; rotate_left; simp only [Act.put, q1, q2, q3, i64_w, i32_w]; rfl
                       refine take_ (i := 18) (N := some 45) (v := ?_) (a' := ?_) (bs 18874367 30) rfl rfl (take_ofW HT_.out HW_.out (by kernel_rfl)) (fun _ _ _ h => h) (Or.inl ⟨by rfl, ?_⟩) hHeld ?_ ?_; rotate_left; rintro w' ⟨s0, s1, s2, s3, s4, s5⟩; go_simp; with_reducible rfl; rotate_left; simp only [Act.put, q1, q2, q3, i64_w, i32_w]; rfl
                       refine pure_ (i := 21) (N := some 48) (v := ?_) (a' := ?_) (bs 20971519 30) rfl rfl (any_of HT_.out (by kernel_rfl)) (fun _ _ _ h => h) (Or.inl ⟨by rfl, ?_⟩) ?_ ?_; rotate_left; intro w'; go_simp; with_reducible rfl; rotate_left; simp only [Act.put, q1, q2, q3, i64_w, i32_w]; rfl
                       refine pure_ (i := 22) (N := some 49) (v := ?_) (a' := ?_) (bs 25165823 30) rfl rfl (any_of HT_.out (by kernel_rfl)) (fun _ _ _ h => h) (Or.inl ⟨by rfl, ?_⟩) ?_ ?_; rotate_left; intro w'; go_simp; with_reducible rfl; rotate_left; simp only [Act.put, q1, q2, q3, i64_w, i32_w]; rfl
                       refine take_ (i := 23) (N := some 50) (v := ?_) (a' := ?_) (bs 33554431 30) rfl rfl (take_ofW HT_.out HW_.out (by kernel_rfl)) (fun _ _ _ h => h) (Or.inl ⟨by rfl, ?_⟩) hHeld ?_ ?_; rotate_left; rintro w' ⟨s0, s1, s2, s3, s4, s5⟩; go_simp; with_reducible rfl; rotate_left; simp only [Act.put, q1, q2, q3, i64_w, i32_w]; rfl
                       refine take_ (i := 25) (N := some 52) (v := ?_) (a' := ?_) (bs 67108863 30) rfl rfl (take_ofW HT_.out HW_.out (by kernel_rfl)) (fun _ _ _ h => h) (Or.inl ⟨by rfl, ?_⟩) hHeld ?_ ?_; rotate_left; rintro w' ⟨s0, s1, s2, s3, s4, s5⟩; go_simp; with_reducible rfl; rotate_left; simp only [Act.put, q1, q2, q3, i64_w, i32_w]; rfl
                       refine one_ (i := 26) (N := some 53) (bs 134217727 30) rfl rfl (one_of HT_.out (by kernel_rfl)) (by decide) (fun K hK => ?_)
                       refine goes_ Try.func70 (by kernel_rfl) rfl #[.slice A144_0 ((rd_T65 l0_1 (ji16)).f0).length c144_0, .slice A140_0 ((rd_T65 l0_1 x3_2).f0).length c140_0] (by rfl) rfl rfl (by (try simp only [List.map_toArray, List.map_cons, List.map_nil]); rfl) ?_
                       with_reducible refine (spec_l01Before.calls k2 _ _ ((rd_T65 l0_1 (ji16)).f0) _ _ ((rd_T65 l0_1 x3_2).f0) true _ ?side1 ?side2 ?side3 ?side4 A19.out).mono ?_
                       (case side1 => repeat (exact (Kd.C_below HR144_0.out (by repeat ((with_reducible first | exact HB.out | apply pw_below_drewN))))))
                       (case side2 => exact HC144_0.out)
                       (case side3 => repeat (exact (Kd.C_below HR140_0.out (by repeat ((with_reducible first | exact HB.out | apply pw_below_drewN))))))
                       (case side4 => exact HC140_0.out)
                       rintro e w' ⟨rfl, ⟨nd, rfl⟩⟩
                       refine ⟨_, rfl, ?_⟩
                       refine hK.out _ _ ⟨(blk_cell BK141.out 0).trans rfl, (blk_cell BK141.out 1).trans rfl, (blk_cell BK138.out 0).trans rfl, (blk_cell BK138.out 1).trans rfl, ((HB.out.cell (World.block_lt_of_cell? w _ hw144_0)).trans hw144_0), ((HB.out.cell (World.block_lt_of_cell? w _ hw144_1)).trans hw144_1)⟩ (fun hHeld => ?_)
                       clear hK K
                       refine norm_ (a' := ?_) ?_ ?_; rotate_left; show Act.put _ (some 53) _ = _; simp only [Act.put, q1, q2, q3, i64_w, i32_w]; rfl
                       refine pure_ (i := 27) (N := some 54) (v := ?_) (a' := ?_) (bs 268435455 30) rfl rfl (any_of HT_.out (by kernel_rfl)) (fun _ _ _ h => h) (Or.inl ⟨by rfl, ?_⟩) ?_ ?_; rotate_left; intro w'; go_simp; with_reducible rfl; rotate_left; simp only [Act.put, q1, q2, q3, i64_w, i32_w]; rfl
                       refine pure_ (i := 28) (N := some 55) (v := ?_) (a' := ?_) (bs 536870911 30) rfl rfl (any_of HT_.out (by kernel_rfl)) (fun _ _ _ h => h) (Or.inl ⟨by rfl, ?_⟩) ?_ ?_; rotate_left; intro w'; go_simp; with_reducible rfl; rotate_left; simp only [Act.put, q1, q2, q3, i64_w, i32_w]; rfl
                       refine pure_ (i := 29) (N := some 56) (v := ?_) (a' := ?_) (bs 1073741823 30) rfl rfl (any_of HT_.out (by kernel_rfl)) (fun _ _ _ h => h) (Or.inl ⟨by rfl, ?_⟩) ?_ ?_; rotate_left; intro w'; go_simp; with_reducible rfl; rotate_left; simp only [Act.put, q1, q2, q3, i64_w, i32_w]; rfl
                       refine done_ (done_of HT_.out (by kernel_rfl)) ?_
                       try go_wp2
                       go_roundg k2
                       case measure => have := HJ1.out; have := HK2.out; omega
                       case rel => exact ⟨(wrap64 (x3_2 + 1)), (by rfl), H', ⟨by have := HJ1.out; have := HK2.out; omega⟩, ⟨by (with_reducible repeat (refine blk_drewN ?_ _)); exact BK138.out⟩, ⟨by repeat ((with_reducible first | exact HB.out | apply pw_below_drewN))⟩⟩
                     · replace c20 := Bool.eq_false_iff.mpr c20
                       subst c20
                       have H1 : (some false) = some r := by rw [if_neg (show ¬ (false = true) by decide)] at H; exact H
                       clear H
                       have H := H1
                       clear H1
                       obtain rfl := Option.some.inj H
                       have hcz28_0 : wr.cell? ⟨gb138, 0, none⟩ = some (.int .i64 a0_0) := (blk_cell BK138.out 0).trans rfl
                       have hcz28_1 : wr.cell? ⟨gb138, 1, none⟩ = some (.slice A0_1 l0_1.length c0_1) := (blk_cell BK138.out 1).trans rfl
                       have hfz28_0 := blk_frozen BK138.out 0
                       have hfz28_1 := blk_frozen BK138.out 1
                       have p140 : 0 ≤ (x3_2 : Int) := of_decide_eq_true (by (with_reducible assumption))
                       have q140 : x3_2 < (l0_1.length : Int) := of_decide_eq_true (by (with_reducible assumption))
                       obtain ⟨ad140, A140_0, c140_0, e140, hx140_0, hx140_1, hl140_0, hi140_0⟩ := at_T65 HR0_1.out x3_2 p140 q140
                       cases e140
                       replace hx140_0 := (HB.out.cell (World.block_lt_of_cell? w _ hx140_0)).trans hx140_0
                       replace hx140_1 := (HB.out.cell (World.block_lt_of_cell? w _ hx140_1)).trans hx140_1
                       have HR140_0 := am hi140_0
                       have HC140_0 := am hl140_0
                       clear hi140_0 hl140_0
                       replace p140 := eq_true p140
                       replace q140 := eq_true q140
                       try go_wp2_with (((with_reducible refine gate_dst (N := 4) rfl ?_); (try (refine gate_guard (by rfl) ?_; dsimp only)); refine box_event ?hg (N := 4) ?hd (cs := #[.slice none 0 0, .int .i64 0]) (t := 65) ?hr ?_; (case hd => rfl); (case hg => rfl); (case hr => (go_simp; done)); intro gb141 hg w29 hbox hb; have n0_ := am (blk_below (g := gb138) (o := .cells #[.int .i64 a0_0, .slice (some ad140) l0_1.length c0_1] 28 (0, 0)) (by exact BK138.out) hb); have n1_ := am (below_step (by repeat ((with_reducible exact HB.out))) hb); have n2_ := am (hbox); have n3_ := am ((by rw [hg]; exact (below_size (by repeat ((with_reducible exact HB.out)))) : w.heap.size ≤ gb141)); have n4_ := am ((by rw [hg]; exact (below_size (by repeat ((with_reducible exact HB.out)))) : w.heap.size ≤ gb141)); have n5_ := am ((by rw [hg]; exact Nat.ne_of_lt (blk_lt (g := gb138) (o := .cells #[.int .i64 a0_0, .slice (some ad140) l0_1.length c0_1] 28 (0, 0)) (by exact BK138.out)) : gb138 ≠ gb141)); have n6_ := am ((by rw [hg]; exact Nat.ne_of_gt (blk_lt (g := gb138) (o := .cells #[.int .i64 a0_0, .slice (some ad140) l0_1.length c0_1] 28 (0, 0)) (by exact BK138.out)) : gb141 ≠ gb138)); clear BK138; clear HB; have BK138 := n0_; have HB := n1_; have BK141 := n2_; have GW141 := n3_; have GE141 := n4_; have NB138_141 := n5_; have NB141_138 := n6_; clear n0_ n1_ n2_ n3_ n4_ n5_ n6_; clear hb hbox hg; have hnb30 := NB141_138.out; have hnc30 := NB138_141.out; have hcz31_0 : w29.cell? ⟨gb141, 0, none⟩ = some (.slice none 0 0) := (blk_cell BK141.out 0).trans rfl; have hcz31_1 : w29.cell? ⟨gb141, 1, none⟩ = some (.int .i64 0) := (blk_cell BK141.out 1).trans rfl; have hfz31_0 := blk_frozen BK141.out 0; have hfz31_1 := blk_frozen BK141.out 1))
                       have n0_ : Aside0 (((w29.setCell ⟨gb141, 0, none⟩ (.slice A140_0 ((rd_T65 l0_1 x3_2).f0).length c140_0)).setCell ⟨gb141, 1, none⟩ (.int .i64 ((rd_T65 l0_1 x3_2).f1))).heap[gb138]? = some (.cells #[.int .i64 a0_0, .slice (some ad140) l0_1.length c0_1] 28 (0, 0))) := ⟨by (with_reducible repeat (refine blk_drew ?_)); refine blk_far ?_ NB138_141.out _; (with_reducible repeat (refine blk_drew ?_)); refine blk_far ?_ NB138_141.out _; (with_reducible repeat (refine blk_drew ?_)); exact BK138.out⟩
                       have n1_ : Aside0 (((w29.setCell ⟨gb141, 0, none⟩ (.slice A140_0 ((rd_T65 l0_1 x3_2).f0).length c140_0)).setCell ⟨gb141, 1, none⟩ (.int .i64 ((rd_T65 l0_1 x3_2).f1))).heap[gb141]? = some (.cells #[.slice A140_0 ((rd_T65 l0_1 x3_2).f0).length c140_0, .int .i64 ((rd_T65 l0_1 x3_2).f1)] 65 (0, 0))) := ⟨by (with_reducible repeat (refine blk_drew ?_)); refine blk_put (cs := #[.slice A140_0 ((rd_T65 l0_1 x3_2).f0).length c140_0, .int .i64 0]) ?_ 1 _ rfl; (with_reducible repeat (refine blk_drew ?_)); refine blk_put (cs := #[.slice none 0 0, .int .i64 0]) ?_ 0 _ rfl; (with_reducible repeat (refine blk_drew ?_)); exact BK141.out⟩
                       have n2_ : Aside0 (Below w.heap.size w ((w29.setCell ⟨gb141, 0, none⟩ (.slice A140_0 ((rd_T65 l0_1 x3_2).f0).length c140_0)).setCell ⟨gb141, 1, none⟩ (.int .i64 ((rd_T65 l0_1 x3_2).f1)))) := ⟨by repeat ((with_reducible first | exact HB.out | refine below_set ?_ GE141.out))⟩
                       (try clear BK138)
                       (try clear BK141)
                       (try clear HB)
                       generalize ((w29.setCell ⟨gb141, 0, none⟩ (.slice A140_0 ((rd_T65 l0_1 x3_2).f0).length c140_0)).setCell ⟨gb141, 1, none⟩ (.int .i64 ((rd_T65 l0_1 x3_2).f1))) = w32 at n0_ n1_ n2_ ⊢
                       have BK138 := n0_
                       have BK141 := n1_
                       have HB := n2_
                       clear n0_ n1_ n2_
                       have n0_ := am (blk_drew BK138.out)
                       have n1_ := am (blk_drew BK141.out)
                       have n2_ := am (below_drew1 HB.out)
                       clear BK138
                       clear BK141
                       clear HB
                       have BK138 := n0_
                       have BK141 := n1_
                       have HB := n2_
                       clear n0_ n1_ n2_
                       have p144 : 0 ≤ ((ji16) : Int) := of_decide_eq_true (by (with_reducible assumption))
                       have q144 : (ji16) < (l0_1.length : Int) := of_decide_eq_true (by (with_reducible assumption))
                       obtain ⟨ad144, A144_0, c144_0, e144, hx144_0, hx144_1, hl144_0, hi144_0⟩ := at_T65 HR0_1.out (ji16) p144 q144
                       have hw144_1 := hx144_1
                       have hw144_0 := hx144_0
                       obtain rfl : ad140 = ad144 := (by injection e144)
                       replace hx144_0 := (HB.out.cell (World.block_lt_of_cell? w _ hx144_0)).trans hx144_0
                       replace hx144_1 := (HB.out.cell (World.block_lt_of_cell? w _ hx144_1)).trans hx144_1
                       have HR144_0 := am hi144_0
                       have HC144_0 := am hl144_0
                       clear hi144_0 hl144_0
                       replace p144 := eq_true p144
                       replace q144 := eq_true q144
                       refine start_ (n := 30) (S := fun w' => w'.cell? ⟨gb141, 0, none⟩ = some (.slice A140_0 ((rd_T65 l0_1 x3_2).f0).length c140_0) ∧ w'.cell? ⟨gb141, 1, none⟩ = some (.int .i64 ((rd_T65 l0_1 x3_2).f1)) ∧ w'.cell? ⟨gb138, 0, none⟩ = some (.int .i64 a0_0) ∧ w'.cell? ⟨gb138, 1, none⟩ = some (.slice (some ad140) l0_1.length c0_1) ∧ w'.cell? (ad140.add (((ji16)).toNat * 2)) = some (.slice A144_0 ((rd_T65 l0_1 (ji16)).f0).length c144_0) ∧ w'.cell? ⟨(ad140.add (((ji16)).toNat * 2)).block, (ad140.add (((ji16)).toNat * 2)).off + 1, none⟩ = some (.int .i64 ((rd_T65 l0_1 (ji16)).f1))) (ds := []) (bs 0 30) (by kernel_rfl) rfl rfl ⟨(blk_cell BK141.out 0).trans rfl, (blk_cell BK141.out 1).trans rfl, (blk_cell BK138.out 0).trans rfl, (blk_cell BK138.out 1).trans rfl, ((HB.out.cell (World.block_lt_of_cell? w _ hw144_0)).trans hw144_0), ((HB.out.cell (World.block_lt_of_cell? w _ hw144_1)).trans hw144_1)⟩ (fun hHeld => ?_); refine with_tabW spec_l03Is.tab7 spec_l03Is.bits7 (fun HT_ HW_ => ?_)
                       generalize w32.drew = w33 at BK138 BK141 HB HR144_0 hx144_0 hx144_1 hHeld ⊢
                       refine pure_ (i := 0) (N := some 27) (v := ?_) (a' := ?_) (bs 1 30) rfl rfl (any_of HT_.out (by kernel_rfl)) (fun _ _ _ h => h) (Or.inl ⟨by rfl, ?_⟩) ?_ ?_; rotate_left; intro w'; go_simp; with_reducible rfl; rotate_left; simp only [Act.put, q1, q2, q3, i64_w, i32_w]; rfl
                       refine take_ (i := 1) (N := some 28) (v := ?_) (a' := ?_) (bs 3 30) rfl rfl (take_ofW HT_.out HW_.out (by kernel_rfl)) (fun _ _ _ h => h) (Or.inl ⟨by rfl, ?_⟩) hHeld ?_ ?_; rotate_left; rintro w' ⟨s0, s1, s2, s3, s4, s5⟩; go_simp; with_reducible rfl; rotate_left; simp only [Act.put, q1, q2, q3, i64_w, i32_w]; rfl
                       refine one_ (i := 2) (N := some 29) (bs 7 30) rfl rfl (one_of HT_.out (by kernel_rfl)) (by decide) (fun K hK => ?_)
                       refine goes_ Try.func76 (by kernel_rfl) rfl #[.slice A140_0 ((rd_T65 l0_1 x3_2).f0).length c140_0] (by rfl) rfl rfl (by (try simp only [List.map_toArray, List.map_cons, List.map_nil]); rfl) ?_
                       with_reducible refine (spec_l01Is.calls k2 _ _ ((rd_T65 l0_1 x3_2).f0) true _ ?side1 ?side2 A11.out).mono ?_
                       (case side1 => repeat (exact (Kd.C_below HR140_0.out HB.out)))
                       (case side2 => exact HC140_0.out)
                       rintro e w34 ⟨rfl, hb⟩
                       refine ⟨_, rfl, ?_⟩
                       have n0_ := am (blk_below (g := gb138) (o := .cells #[.int .i64 a0_0, .slice (some ad140) l0_1.length c0_1] 28 (0, 0)) (by exact BK138.out) hb)
                       have n1_ := am (blk_below (g := gb141) (o := .cells #[.slice A140_0 ((rd_T65 l0_1 x3_2).f0).length c140_0, .int .i64 ((rd_T65 l0_1 x3_2).f1)] 65 (0, 0)) (by exact BK141.out) hb)
                       have n2_ := am (below_step (by repeat ((with_reducible exact HB.out))) hb)
                       clear BK138
                       clear BK141
                       clear HB
                       have BK138 := n0_
                       have BK141 := n1_
                       have HB := n2_
                       clear n0_ n1_ n2_
                       (try clear hb)
                       (try clear hb2)
                       (try clear hk)
                       (try clear hi)
                       refine hK.out _ _ ⟨(blk_cell BK141.out 0).trans rfl, (blk_cell BK141.out 1).trans rfl, (blk_cell BK138.out 0).trans rfl, (blk_cell BK138.out 1).trans rfl, ((HB.out.cell (World.block_lt_of_cell? w _ hw144_0)).trans hw144_0), ((HB.out.cell (World.block_lt_of_cell? w _ hw144_1)).trans hw144_1)⟩ (fun hHeld => ?_)
                       clear hK K
                       refine norm_ (a' := ?_) ?_ ?_; rotate_left; show Act.put _ (some 29) _ = _; simp only [Act.put, q1, q2, q3, i64_w, i32_w]; rfl
                       refine pure_ (i := 3) (N := some 30) (v := ?_) (a' := ?_) (bs 15 30) rfl rfl (any_of HT_.out (by kernel_rfl)) (fun _ _ _ h => h) (Or.inl ⟨by rfl, ?_⟩) ?_ ?_; rotate_left; intro w'; go_simp; with_reducible rfl; rotate_left; simp only [Act.put, q1, q2, q3, i64_w, i32_w]; rfl
                       refine pure_ (i := 4) (N := some 31) (v := ?_) (a' := ?_) (bs 31 30) rfl rfl (any_of HT_.out (by kernel_rfl)) (fun _ _ _ h => h) (Or.inl ⟨by rfl, ?_⟩) ?_ ?_; rotate_left; intro w'; go_simp; with_reducible rfl; rotate_left; simp only [Act.put, q1, q2, q3, i64_w, i32_w]; rfl
                       refine pure_ (i := 5) (N := some 32) (v := ?_) (a' := ?_) (bs 63 30) rfl rfl (any_of HT_.out (by kernel_rfl)) (fun _ _ _ h => h) (Or.inl ⟨by rfl, ?_⟩) ?_ ?_; rotate_left; intro w'; go_simp; with_reducible rfl; rotate_left; simp only [Act.put, q1, q2, q3, i64_w, i32_w]; rfl
                       refine pure_ (i := 7) (N := some 34) (v := ?_) (a' := ?_) (bs 191 30) rfl rfl (any_of HT_.out (by kernel_rfl)) (fun _ _ _ h => h) (Or.inl ⟨by rfl, ?_⟩) ?_ ?_; rotate_left; intro w'; go_simp; with_reducible rfl; rotate_left; simp only [Act.put, q1, q2, q3, i64_w, i32_w]; rfl
                       refine take_ (i := 6) (N := some 33) (v := ?_) (a' := ?_) (bs 255 30) rfl rfl (take_ofW HT_.out HW_.out (by kernel_rfl)) (fun _ _ _ h => h) (Or.inl ⟨by rfl, ?_⟩) hHeld ?_ ?_; rotate_left; rintro w' ⟨s0, s1, s2, s3, s4, s5⟩; go_simp; with_reducible rfl; rotate_left; simp only [Act.put, q1, q2, q3, i64_w, i32_w]; rfl
                       refine take_ (i := 8) (N := some 35) (v := ?_) (a' := ?_) (bs 511 30) rfl rfl (take_ofW HT_.out HW_.out (by kernel_rfl)) (fun _ _ _ h => h) (Or.inl ⟨by rfl, ?_⟩) hHeld ?_ ?_; rotate_left; rintro w' ⟨s0, s1, s2, s3, s4, s5⟩; go_simp; with_reducible rfl; rotate_left; simp only [Act.put, q1, q2, q3, i64_w, i32_w]; rfl
                       refine pure_ (i := 9) (N := some 36) (v := ?_) (a' := ?_) (bs 1023 30) rfl rfl (any_of HT_.out (by kernel_rfl)) (fun _ _ _ h => h) (Or.inl ⟨by rfl, ?_⟩) ?_ ?_; rotate_left; intro w'; go_simp; with_reducible rfl; rotate_left; simp only [Act.put, q1, q2, q3, i64_w, i32_w]; rfl
                       refine one_ (i := 10) (N := some 37) (bs 2047 30) rfl rfl (one_of HT_.out (by kernel_rfl)) (by decide) (fun K hK => ?_)
                       refine goes_ Try.func67 (by kernel_rfl) rfl #[.int .i64 ((rd_T65 l0_1 x3_2).f1), .int .i64 1, .int .i64 (wrap64 (a0_0 - 1))] (by rfl) rfl rfl (by (try simp only [List.map_toArray, List.map_cons, List.map_nil]); rfl) ?_
                       with_reducible refine (spec_l01In.calls ((rd_T65 l0_1 x3_2).f1) 1 (wrap64 (a0_0 - 1)) true _ A13.out).mono ?_
                       rintro e w' ⟨rfl, ⟨nd, rfl⟩⟩
                       refine ⟨_, rfl, ?_⟩
                       refine hK.out _ _ ⟨(blk_cell BK141.out 0).trans rfl, (blk_cell BK141.out 1).trans rfl, (blk_cell BK138.out 0).trans rfl, (blk_cell BK138.out 1).trans rfl, ((HB.out.cell (World.block_lt_of_cell? w _ hw144_0)).trans hw144_0), ((HB.out.cell (World.block_lt_of_cell? w _ hw144_1)).trans hw144_1)⟩ (fun hHeld => ?_)
                       clear hK K
                       refine norm_ (a' := ?_) ?_ ?_; rotate_left; show Act.put _ (some 37) _ = _; simp only [Act.put, q1, q2, q3, i64_w, i32_w]; rfl
                       refine pure_ (i := 11) (N := some 38) (v := ?_) (a' := ?_) (bs 4095 30) rfl rfl (any_of HT_.out (by kernel_rfl)) (fun _ _ _ h => h) (Or.inl ⟨by rfl, ?_⟩) ?_ ?_; rotate_left; intro w'; go_simp; with_reducible rfl; rotate_left; simp only [Act.put, q1, q2, q3, i64_w, i32_w]; rfl
                       refine pure_ (i := 12) (N := some 39) (v := ?_) (a' := ?_) (bs 8191 30) rfl rfl (any_of HT_.out (by kernel_rfl)) (fun _ _ _ h => h) (Or.inl ⟨by rfl, ?_⟩) ?_ ?_; rotate_left; intro w'; go_simp; with_reducible rfl; rotate_left; simp only [Act.put, q1, q2, q3, i64_w, i32_w]; rfl
                       refine pure_ (i := 13) (N := some 40) (v := ?_) (a' := ?_) (bs 16383 30) rfl rfl (any_of HT_.out (by kernel_rfl)) (fun _ _ _ h => h) (Or.inl ⟨by rfl, ?_⟩) ?_ ?_; rotate_left; intro w'; go_simp; with_reducible rfl; rotate_left; simp only [Act.put, q1, q2, q3, i64_w, i32_w]; rfl
                       refine pure_ (i := 14) (N := some 41) (v := ?_) (a' := ?_) (bs 32767 30) rfl rfl (any_of HT_.out (by kernel_rfl)) (fun _ _ _ h => h) (Or.inl ⟨by rfl, ?_⟩) ?_ ?_; rotate_left; intro w'; go_simp; with_reducible rfl; rotate_left; simp only [Act.put, q1, q2, q3, i64_w, i32_w]; rfl
                       refine pure_ (i := 15) (N := some 42) (v := ?_) (a' := ?_) (bs 65535 30) rfl rfl (any_of HT_.out (by kernel_rfl)) (fun _ _ _ h => h) (Or.inl ⟨by rfl, ?_⟩) ?_ ?_; rotate_left; intro w'; go_simp; with_reducible rfl; rotate_left; simp only [Act.put, q1, q2, q3, i64_w, i32_w]; rfl
                       refine pure_ (i := 16) (N := some 43) (v := ?_) (a' := ?_) (bs 131071 30) rfl rfl (any_of HT_.out (by kernel_rfl)) (fun _ _ _ h => h) (Or.inl ⟨by rfl, ?_⟩) ?_ ?_; rotate_left; intro w'; go_simp; with_reducible rfl; rotate_left; simp only [Act.put, q1, q2, q3, i64_w, i32_w]; rfl
                       refine pure_ (i := 17) (N := some 44) (v := ?_) (a' := ?_) (bs 262143 30) rfl rfl (any_of HT_.out (by kernel_rfl)) (fun _ _ _ h => h) (Or.inl ⟨by rfl, ?_⟩) ?_ ?_; rotate_left; intro w'; go_simp; with_reducible rfl; rotate_left; simp only [Act.put, q1, q2, q3, i64_w, i32_w]; rfl
                       refine pure_ (i := 19) (N := some 46) (v := ?_) (a' := ?_) (bs 786431 30) rfl rfl (any_of HT_.out (by kernel_rfl)) (fun _ _ _ h => h) (Or.inl ⟨by rfl, ?_⟩) ?_ ?_; rotate_left; intro w'; go_simp; with_reducible rfl; rotate_left; simp only [Act.put, q1, q2, q3, i64_w, i32_w]; rfl
                       refine pure_ (i := 20) (N := some 47) (v := ?_) (a' := ?_) (bs 1835007 30) rfl rfl (any_of HT_.out (by kernel_rfl)) (fun _ _ _ h => h) (Or.inl ⟨by rfl, ?_⟩) ?_ ?_; rotate_left; intro w'; go_simp; with_reducible rfl; rotate_left; simp only [Act.put, q1, q2, q3, i64_w, i32_w]; rfl
                       refine pure_ (i := 24) (N := some 51) (v := ?_) (a' := ?_) (bs 18612223 30) rfl rfl (any_of HT_.out (by kernel_rfl)) (fun _ _ _ h => h) (Or.inl ⟨by rfl, ?_⟩) ?_ ?_; rotate_left; intro w'; go_simp; with_reducible rfl; rotate_left; simp only [Act.put, q1, q2, q3, i64_w, i32_w]; rfl
                       refine take_ (i := 18) (N := some 45) (v := ?_) (a' := ?_) (bs 18874367 30) rfl rfl (take_ofW HT_.out HW_.out (by kernel_rfl)) (fun _ _ _ h => h) (Or.inl ⟨by rfl, ?_⟩) hHeld ?_ ?_; rotate_left; rintro w' ⟨s0, s1, s2, s3, s4, s5⟩; go_simp; with_reducible rfl; rotate_left; simp only [Act.put, q1, q2, q3, i64_w, i32_w]; rfl
                       refine pure_ (i := 21) (N := some 48) (v := ?_) (a' := ?_) (bs 20971519 30) rfl rfl (any_of HT_.out (by kernel_rfl)) (fun _ _ _ h => h) (Or.inl ⟨by rfl, ?_⟩) ?_ ?_; rotate_left; intro w'; go_simp; with_reducible rfl; rotate_left; simp only [Act.put, q1, q2, q3, i64_w, i32_w]; rfl
                       refine pure_ (i := 22) (N := some 49) (v := ?_) (a' := ?_) (bs 25165823 30) rfl rfl (any_of HT_.out (by kernel_rfl)) (fun _ _ _ h => h) (Or.inl ⟨by rfl, ?_⟩) ?_ ?_; rotate_left; intro w'; go_simp; with_reducible rfl; rotate_left; simp only [Act.put, q1, q2, q3, i64_w, i32_w]; rfl
                       refine take_ (i := 23) (N := some 50) (v := ?_) (a' := ?_) (bs 33554431 30) rfl rfl (take_ofW HT_.out HW_.out (by kernel_rfl)) (fun _ _ _ h => h) (Or.inl ⟨by rfl, ?_⟩) hHeld ?_ ?_; rotate_left; rintro w' ⟨s0, s1, s2, s3, s4, s5⟩; go_simp; with_reducible rfl; rotate_left; simp only [Act.put, q1, q2, q3, i64_w, i32_w]; rfl
                       refine take_ (i := 25) (N := some 52) (v := ?_) (a' := ?_) (bs 67108863 30) rfl rfl (take_ofW HT_.out HW_.out (by kernel_rfl)) (fun _ _ _ h => h) (Or.inl ⟨by rfl, ?_⟩) hHeld ?_ ?_; rotate_left; rintro w' ⟨s0, s1, s2, s3, s4, s5⟩; go_simp; with_reducible rfl; rotate_left; simp only [Act.put, q1, q2, q3, i64_w, i32_w]; rfl
                       refine one_ (i := 26) (N := some 53) (bs 134217727 30) rfl rfl (one_of HT_.out (by kernel_rfl)) (by decide) (fun K hK => ?_)
                       refine goes_ Try.func70 (by kernel_rfl) rfl #[.slice A144_0 ((rd_T65 l0_1 (ji16)).f0).length c144_0, .slice A140_0 ((rd_T65 l0_1 x3_2).f0).length c140_0] (by rfl) rfl rfl (by (try simp only [List.map_toArray, List.map_cons, List.map_nil]); rfl) ?_
                       with_reducible refine (spec_l01Before.calls k2 _ _ ((rd_T65 l0_1 (ji16)).f0) _ _ ((rd_T65 l0_1 x3_2).f0) false _ ?side1 ?side2 ?side3 ?side4 A19.out).mono ?_
                       (case side1 => repeat (exact (Kd.C_below HR144_0.out (by repeat ((with_reducible first | exact HB.out | apply pw_below_drewN))))))
                       (case side2 => exact HC144_0.out)
                       (case side3 => repeat (exact (Kd.C_below HR140_0.out (by repeat ((with_reducible first | exact HB.out | apply pw_below_drewN))))))
                       (case side4 => exact HC140_0.out)
                       rintro e w' ⟨rfl, ⟨nd, rfl⟩⟩
                       refine ⟨_, rfl, ?_⟩
                       refine hK.out _ _ ⟨(blk_cell BK141.out 0).trans rfl, (blk_cell BK141.out 1).trans rfl, (blk_cell BK138.out 0).trans rfl, (blk_cell BK138.out 1).trans rfl, ((HB.out.cell (World.block_lt_of_cell? w _ hw144_0)).trans hw144_0), ((HB.out.cell (World.block_lt_of_cell? w _ hw144_1)).trans hw144_1)⟩ (fun hHeld => ?_)
                       clear hK K
                       refine norm_ (a' := ?_) ?_ ?_; rotate_left; show Act.put _ (some 53) _ = _; simp only [Act.put, q1, q2, q3, i64_w, i32_w]; rfl
                       refine pure_ (i := 27) (N := some 54) (v := ?_) (a' := ?_) (bs 268435455 30) rfl rfl (any_of HT_.out (by kernel_rfl)) (fun _ _ _ h => h) (Or.inl ⟨by rfl, ?_⟩) ?_ ?_; rotate_left; intro w'; go_simp; with_reducible rfl; rotate_left; simp only [Act.put, q1, q2, q3, i64_w, i32_w]; rfl
                       refine pure_ (i := 28) (N := some 55) (v := ?_) (a' := ?_) (bs 536870911 30) rfl rfl (any_of HT_.out (by kernel_rfl)) (fun _ _ _ h => h) (Or.inl ⟨by rfl, ?_⟩) ?_ ?_; rotate_left; intro w'; go_simp; with_reducible rfl; rotate_left; simp only [Act.put, q1, q2, q3, i64_w, i32_w]; rfl
                       refine pure_ (i := 29) (N := some 56) (v := ?_) (a' := ?_) (bs 1073741823 30) rfl rfl (any_of HT_.out (by kernel_rfl)) (fun _ _ _ h => h) (Or.inl ⟨by rfl, ?_⟩) ?_ ?_; rotate_left; intro w'; go_simp; with_reducible rfl; rotate_left; simp only [Act.put, q1, q2, q3, i64_w, i32_w]; rfl
                       refine done_ (done_of HT_.out (by kernel_rfl)) ?_
                       try go_wp2
                       go_ret
                       exact ⟨by rfl, by repeat ((with_reducible first | exact HB.out | apply pw_below_drewN))⟩
                   · rw [if_neg c18] at H
                     exact absurd H (by simp)
                 · rw [if_neg c17] at H
                   exact absurd H (by simp)
               · rw [if_neg c15] at H
                 have c15b0 : decide (0 < x3_2) = false := decide_eq_false c15
                 clear c15
                 have H' := am H
                 clear H
                 have hcz35_0 : wr.cell? ⟨gb138, 0, none⟩ = some (.int .i64 a0_0) := (blk_cell BK138.out 0).trans rfl
                 have hcz35_1 : wr.cell? ⟨gb138, 1, none⟩ = some (.slice A0_1 l0_1.length c0_1) := (blk_cell BK138.out 1).trans rfl
                 have hfz35_0 := blk_frozen BK138.out 0
                 have hfz35_1 := blk_frozen BK138.out 1
                 have p140 : 0 ≤ (x3_2 : Int) := of_decide_eq_true (by (with_reducible assumption))
                 have q140 : x3_2 < (l0_1.length : Int) := of_decide_eq_true (by (with_reducible assumption))
                 obtain ⟨ad140, A140_0, c140_0, e140, hx140_0, hx140_1, hl140_0, hi140_0⟩ := at_T65 HR0_1.out x3_2 p140 q140
                 cases e140
                 replace hx140_0 := (HB.out.cell (World.block_lt_of_cell? w _ hx140_0)).trans hx140_0
                 replace hx140_1 := (HB.out.cell (World.block_lt_of_cell? w _ hx140_1)).trans hx140_1
                 have HR140_0 := am hi140_0
                 have HC140_0 := am hl140_0
                 clear hi140_0 hl140_0
                 replace p140 := eq_true p140
                 replace q140 := eq_true q140
                 try go_wp2_with (((with_reducible refine gate_dst (N := 4) rfl ?_); (try (refine gate_guard (by rfl) ?_; dsimp only)); refine box_event ?hg (N := 4) ?hd (cs := #[.slice none 0 0, .int .i64 0]) (t := 65) ?hr ?_; (case hd => rfl); (case hg => rfl); (case hr => (go_simp; done)); intro gb141 hg w36 hbox hb; have n0_ := am (blk_below (g := gb138) (o := .cells #[.int .i64 a0_0, .slice (some ad140) l0_1.length c0_1] 28 (0, 0)) (by exact BK138.out) hb); have n1_ := am (below_step (by repeat ((with_reducible exact HB.out))) hb); have n2_ := am (hbox); have n3_ := am ((by rw [hg]; exact (below_size (by repeat ((with_reducible exact HB.out)))) : w.heap.size ≤ gb141)); have n4_ := am ((by rw [hg]; exact (below_size (by repeat ((with_reducible exact HB.out)))) : w.heap.size ≤ gb141)); have n5_ := am ((by rw [hg]; exact Nat.ne_of_lt (blk_lt (g := gb138) (o := .cells #[.int .i64 a0_0, .slice (some ad140) l0_1.length c0_1] 28 (0, 0)) (by exact BK138.out)) : gb138 ≠ gb141)); have n6_ := am ((by rw [hg]; exact Nat.ne_of_gt (blk_lt (g := gb138) (o := .cells #[.int .i64 a0_0, .slice (some ad140) l0_1.length c0_1] 28 (0, 0)) (by exact BK138.out)) : gb141 ≠ gb138)); clear BK138; clear HB; have BK138 := n0_; have HB := n1_; have BK141 := n2_; have GW141 := n3_; have GE141 := n4_; have NB138_141 := n5_; have NB141_138 := n6_; clear n0_ n1_ n2_ n3_ n4_ n5_ n6_; clear hb hbox hg; have hnb37 := NB141_138.out; have hnc37 := NB138_141.out; have hcz38_0 : w36.cell? ⟨gb141, 0, none⟩ = some (.slice none 0 0) := (blk_cell BK141.out 0).trans rfl; have hcz38_1 : w36.cell? ⟨gb141, 1, none⟩ = some (.int .i64 0) := (blk_cell BK141.out 1).trans rfl; have hfz38_0 := blk_frozen BK141.out 0; have hfz38_1 := blk_frozen BK141.out 1))
                 have n0_ : Aside0 (((w36.setCell ⟨gb141, 0, none⟩ (.slice A140_0 ((rd_T65 l0_1 x3_2).f0).length c140_0)).setCell ⟨gb141, 1, none⟩ (.int .i64 ((rd_T65 l0_1 x3_2).f1))).heap[gb138]? = some (.cells #[.int .i64 a0_0, .slice (some ad140) l0_1.length c0_1] 28 (0, 0))) := ⟨by (with_reducible repeat (refine blk_drew ?_)); refine blk_far ?_ NB138_141.out _; (with_reducible repeat (refine blk_drew ?_)); refine blk_far ?_ NB138_141.out _; (with_reducible repeat (refine blk_drew ?_)); exact BK138.out⟩
                 have n1_ : Aside0 (((w36.setCell ⟨gb141, 0, none⟩ (.slice A140_0 ((rd_T65 l0_1 x3_2).f0).length c140_0)).setCell ⟨gb141, 1, none⟩ (.int .i64 ((rd_T65 l0_1 x3_2).f1))).heap[gb141]? = some (.cells #[.slice A140_0 ((rd_T65 l0_1 x3_2).f0).length c140_0, .int .i64 ((rd_T65 l0_1 x3_2).f1)] 65 (0, 0))) := ⟨by (with_reducible repeat (refine blk_drew ?_)); refine blk_put (cs := #[.slice A140_0 ((rd_T65 l0_1 x3_2).f0).length c140_0, .int .i64 0]) ?_ 1 _ rfl; (with_reducible repeat (refine blk_drew ?_)); refine blk_put (cs := #[.slice none 0 0, .int .i64 0]) ?_ 0 _ rfl; (with_reducible repeat (refine blk_drew ?_)); exact BK141.out⟩
                 have n2_ : Aside0 (Below w.heap.size w ((w36.setCell ⟨gb141, 0, none⟩ (.slice A140_0 ((rd_T65 l0_1 x3_2).f0).length c140_0)).setCell ⟨gb141, 1, none⟩ (.int .i64 ((rd_T65 l0_1 x3_2).f1)))) := ⟨by repeat ((with_reducible first | exact HB.out | refine below_set ?_ GE141.out))⟩
                 (try clear BK138)
                 (try clear BK141)
                 (try clear HB)
                 generalize ((w36.setCell ⟨gb141, 0, none⟩ (.slice A140_0 ((rd_T65 l0_1 x3_2).f0).length c140_0)).setCell ⟨gb141, 1, none⟩ (.int .i64 ((rd_T65 l0_1 x3_2).f1))) = w39 at n0_ n1_ n2_ ⊢
                 have BK138 := n0_
                 have BK141 := n1_
                 have HB := n2_
                 clear n0_ n1_ n2_
                 have n0_ := am (blk_drew BK138.out)
                 have n1_ := am (blk_drew BK141.out)
                 have n2_ := am (below_drew1 HB.out)
                 clear BK138
                 clear BK141
                 clear HB
                 have BK138 := n0_
                 have BK141 := n1_
                 have HB := n2_
                 clear n0_ n1_ n2_
                 refine start_ (n := 30) (S := fun w' => w'.cell? ⟨gb141, 0, none⟩ = some (.slice A140_0 ((rd_T65 l0_1 x3_2).f0).length c140_0) ∧ w'.cell? ⟨gb141, 1, none⟩ = some (.int .i64 ((rd_T65 l0_1 x3_2).f1)) ∧ w'.cell? ⟨gb138, 0, none⟩ = some (.int .i64 a0_0) ∧ w'.cell? ⟨gb138, 1, none⟩ = some (.slice (some ad140) l0_1.length c0_1)) (ds := []) (bs 0 30) (by kernel_rfl) rfl rfl ⟨(blk_cell BK141.out 0).trans rfl, (blk_cell BK141.out 1).trans rfl, (blk_cell BK138.out 0).trans rfl, (blk_cell BK138.out 1).trans rfl⟩ (fun hHeld => ?_); refine with_tabW spec_l03Is.tab7 spec_l03Is.bits7 (fun HT_ HW_ => ?_)
                 generalize w39.drew = w40 at BK138 BK141 HB hHeld ⊢
                 refine pure_ (i := 0) (N := some 27) (v := ?_) (a' := ?_) (bs 1 30) rfl rfl (any_of HT_.out (by kernel_rfl)) (fun _ _ _ h => h) (Or.inl ⟨by rfl, ?_⟩) ?_ ?_; rotate_left; intro w'; go_simp; with_reducible rfl; rotate_left; simp only [Act.put, q1, q2, q3, i64_w, i32_w]; rfl
                 refine take_ (i := 1) (N := some 28) (v := ?_) (a' := ?_) (bs 3 30) rfl rfl (take_ofW HT_.out HW_.out (by kernel_rfl)) (fun _ _ _ h => h) (Or.inl ⟨by rfl, ?_⟩) hHeld ?_ ?_; rotate_left; rintro w' ⟨s0, s1, s2, s3⟩; go_simp; with_reducible rfl; rotate_left; simp only [Act.put, q1, q2, q3, i64_w, i32_w]; rfl
                 refine one_ (i := 2) (N := some 29) (bs 7 30) rfl rfl (one_of HT_.out (by kernel_rfl)) (by decide) (fun K hK => ?_)
                 refine goes_ Try.func76 (by kernel_rfl) rfl #[.slice A140_0 ((rd_T65 l0_1 x3_2).f0).length c140_0] (by rfl) rfl rfl (by (try simp only [List.map_toArray, List.map_cons, List.map_nil]); rfl) ?_
                 with_reducible refine (spec_l01Is.calls k2 _ _ ((rd_T65 l0_1 x3_2).f0) true _ ?side1 ?side2 A11.out).mono ?_
                 (case side1 => repeat (exact (Kd.C_below HR140_0.out HB.out)))
                 (case side2 => exact HC140_0.out)
                 rintro e w41 ⟨rfl, hb⟩
                 refine ⟨_, rfl, ?_⟩
                 have n0_ := am (blk_below (g := gb138) (o := .cells #[.int .i64 a0_0, .slice (some ad140) l0_1.length c0_1] 28 (0, 0)) (by exact BK138.out) hb)
                 have n1_ := am (blk_below (g := gb141) (o := .cells #[.slice A140_0 ((rd_T65 l0_1 x3_2).f0).length c140_0, .int .i64 ((rd_T65 l0_1 x3_2).f1)] 65 (0, 0)) (by exact BK141.out) hb)
                 have n2_ := am (below_step (by repeat ((with_reducible exact HB.out))) hb)
                 clear BK138
                 clear BK141
                 clear HB
                 have BK138 := n0_
                 have BK141 := n1_
                 have HB := n2_
                 clear n0_ n1_ n2_
                 (try clear hb)
                 (try clear hb2)
                 (try clear hk)
                 (try clear hi)
                 refine hK.out _ _ ⟨(blk_cell BK141.out 0).trans rfl, (blk_cell BK141.out 1).trans rfl, (blk_cell BK138.out 0).trans rfl, (blk_cell BK138.out 1).trans rfl⟩ (fun hHeld => ?_)
                 clear hK K
                 refine norm_ (a' := ?_) ?_ ?_; rotate_left; show Act.put _ (some 29) _ = _; simp only [Act.put, q1, q2, q3, i64_w, i32_w]; rfl
                 refine pure_ (i := 3) (N := some 30) (v := ?_) (a' := ?_) (bs 15 30) rfl rfl (any_of HT_.out (by kernel_rfl)) (fun _ _ _ h => h) (Or.inl ⟨by rfl, ?_⟩) ?_ ?_; rotate_left; intro w'; go_simp; with_reducible rfl; rotate_left; simp only [Act.put, q1, q2, q3, i64_w, i32_w]; rfl
                 refine pure_ (i := 4) (N := some 31) (v := ?_) (a' := ?_) (bs 31 30) rfl rfl (any_of HT_.out (by kernel_rfl)) (fun _ _ _ h => h) (Or.inl ⟨by rfl, ?_⟩) ?_ ?_; rotate_left; intro w'; go_simp; with_reducible rfl; rotate_left; simp only [Act.put, q1, q2, q3, i64_w, i32_w]; rfl
                 refine pure_ (i := 5) (N := some 32) (v := ?_) (a' := ?_) (bs 63 30) rfl rfl (any_of HT_.out (by kernel_rfl)) (fun _ _ _ h => h) (Or.inl ⟨by rfl, ?_⟩) ?_ ?_; rotate_left; intro w'; go_simp; with_reducible rfl; rotate_left; simp only [Act.put, q1, q2, q3, i64_w, i32_w]; rfl
                 refine pure_ (i := 7) (N := some 34) (v := ?_) (a' := ?_) (bs 191 30) rfl rfl (any_of HT_.out (by kernel_rfl)) (fun _ _ _ h => h) (Or.inl ⟨by rfl, ?_⟩) ?_ ?_; rotate_left; intro w'; go_simp; with_reducible rfl; rotate_left; simp only [Act.put, q1, q2, q3, i64_w, i32_w]; rfl
                 refine take_ (i := 6) (N := some 33) (v := ?_) (a' := ?_) (bs 255 30) rfl rfl (take_ofW HT_.out HW_.out (by kernel_rfl)) (fun _ _ _ h => h) (Or.inl ⟨by rfl, ?_⟩) hHeld ?_ ?_; rotate_left; rintro w' ⟨s0, s1, s2, s3⟩; go_simp; with_reducible rfl; rotate_left; simp only [Act.put, q1, q2, q3, i64_w, i32_w]; rfl
                 refine take_ (i := 8) (N := some 35) (v := ?_) (a' := ?_) (bs 511 30) rfl rfl (take_ofW HT_.out HW_.out (by kernel_rfl)) (fun _ _ _ h => h) (Or.inl ⟨by rfl, ?_⟩) hHeld ?_ ?_; rotate_left; rintro w' ⟨s0, s1, s2, s3⟩; go_simp; with_reducible rfl; rotate_left; simp only [Act.put, q1, q2, q3, i64_w, i32_w]; rfl
                 refine pure_ (i := 9) (N := some 36) (v := ?_) (a' := ?_) (bs 1023 30) rfl rfl (any_of HT_.out (by kernel_rfl)) (fun _ _ _ h => h) (Or.inl ⟨by rfl, ?_⟩) ?_ ?_; rotate_left; intro w'; go_simp; with_reducible rfl; rotate_left; simp only [Act.put, q1, q2, q3, i64_w, i32_w]; rfl
                 refine one_ (i := 10) (N := some 37) (bs 2047 30) rfl rfl (one_of HT_.out (by kernel_rfl)) (by decide) (fun K hK => ?_)
                 refine goes_ Try.func67 (by kernel_rfl) rfl #[.int .i64 ((rd_T65 l0_1 x3_2).f1), .int .i64 1, .int .i64 (wrap64 (a0_0 - 1))] (by rfl) rfl rfl (by (try simp only [List.map_toArray, List.map_cons, List.map_nil]); rfl) ?_
                 with_reducible refine (spec_l01In.calls ((rd_T65 l0_1 x3_2).f1) 1 (wrap64 (a0_0 - 1)) true _ A13.out).mono ?_
                 rintro e w' ⟨rfl, ⟨nd, rfl⟩⟩
                 refine ⟨_, rfl, ?_⟩
                 refine hK.out _ _ ⟨(blk_cell BK141.out 0).trans rfl, (blk_cell BK141.out 1).trans rfl, (blk_cell BK138.out 0).trans rfl, (blk_cell BK138.out 1).trans rfl⟩ (fun hHeld => ?_)
                 clear hK K
                 refine norm_ (a' := ?_) ?_ ?_; rotate_left; show Act.put _ (some 37) _ = _; simp only [Act.put, q1, q2, q3, i64_w, i32_w]; rfl
                 refine pure_ (i := 11) (N := some 38) (v := ?_) (a' := ?_) (bs 4095 30) rfl rfl (any_of HT_.out (by kernel_rfl)) (fun _ _ _ h => h) (Or.inl ⟨by rfl, ?_⟩) ?_ ?_; rotate_left; intro w'; go_simp; with_reducible rfl; rotate_left; simp only [Act.put, q1, q2, q3, i64_w, i32_w]; rfl
                 refine pure_ (i := 12) (N := some 39) (v := ?_) (a' := ?_) (bs 8191 30) rfl rfl (any_of HT_.out (by kernel_rfl)) (fun _ _ _ h => h) (Or.inl ⟨by rfl, ?_⟩) ?_ ?_; rotate_left; intro w'; go_simp; with_reducible rfl; rotate_left; simp only [Act.put, q1, q2, q3, i64_w, i32_w]; rfl
                 refine pure_ (i := 13) (N := some 40) (v := ?_) (a' := ?_) (bs 16383 30) rfl rfl (any_of HT_.out (by kernel_rfl)) (fun _ _ _ h => h) (Or.inl ⟨by rfl, ?_⟩) ?_ ?_; rotate_left; intro w'; go_simp; with_reducible rfl; rotate_left; simp only [Act.put, q1, q2, q3, i64_w, i32_w]; rfl
                 refine pure_ (i := 14) (N := some 41) (v := ?_) (a' := ?_) (bs 32767 30) rfl rfl (any_of HT_.out (by kernel_rfl)) (fun _ _ _ h => h) (Or.inl ⟨by rfl, ?_⟩) ?_ ?_; rotate_left; intro w'; go_simp; with_reducible rfl; rotate_left; simp only [Act.put, q1, q2, q3, i64_w, i32_w]; rfl
                 refine pure_ (i := 15) (N := some 42) (v := ?_) (a' := ?_) (bs 65535 30) rfl rfl (any_of HT_.out (by kernel_rfl)) (fun _ _ _ h => h) (Or.inl ⟨by rfl, ?_⟩) ?_ ?_; rotate_left; intro w'; go_simp; with_reducible rfl; rotate_left; simp only [Act.put, q1, q2, q3, i64_w, i32_w]; rfl
                 refine pure_ (i := 16) (N := some 43) (v := ?_) (a' := ?_) (bs 131071 30) rfl rfl (any_of HT_.out (by kernel_rfl)) (fun _ _ _ h => h) (Or.inl ⟨by rfl, ?_⟩) ?_ ?_; rotate_left; intro w'; go_simp; with_reducible rfl; rotate_left; simp only [Act.put, q1, q2, q3, i64_w, i32_w]; rfl
                 refine pure_ (i := 17) (N := some 44) (v := undef) (a' := ?_) (bs 262143 30) rfl rfl (any_of HT_.out (by kernel_rfl)) (fun _ _ _ h => h) (Or.inr ⟨by rfl, rfl⟩) ?_ ?_; rotate_left; simp only [Act.put, q1, q2, q3, i64_w, i32_w]; rfl
                 refine pure_ (i := 18) (N := some 45) (v := undef) (a' := ?_) (bs 524287 30) rfl rfl (any_of HT_.out (by kernel_rfl)) (fun _ _ _ h => h) (Or.inr ⟨by rfl, rfl⟩) ?_ ?_; rotate_left; simp only [Act.put, q1, q2, q3, i64_w, i32_w]; rfl
                 refine pure_ (i := 19) (N := some 46) (v := undef) (a' := ?_) (bs 1048575 30) rfl rfl (any_of HT_.out (by kernel_rfl)) (fun _ _ _ h => h) (Or.inr ⟨by rfl, rfl⟩) ?_ ?_; rotate_left; simp only [Act.put, q1, q2, q3, i64_w, i32_w]; rfl
                 refine pure_ (i := 20) (N := some 47) (v := undef) (a' := ?_) (bs 2097151 30) rfl rfl (any_of HT_.out (by kernel_rfl)) (fun _ _ _ h => h) (Or.inr ⟨by rfl, rfl⟩) ?_ ?_; rotate_left; simp only [Act.put, q1, q2, q3, i64_w, i32_w]; rfl
                 refine pure_ (i := 21) (N := some 48) (v := undef) (a' := ?_) (bs 4194303 30) rfl rfl (any_of HT_.out (by kernel_rfl)) (fun _ _ _ h => h) (Or.inr ⟨by rfl, rfl⟩) ?_ ?_; rotate_left; simp only [Act.put, q1, q2, q3, i64_w, i32_w]; rfl
                 refine pure_ (i := 22) (N := some 49) (v := undef) (a' := ?_) (bs 8388607 30) rfl rfl (any_of HT_.out (by kernel_rfl)) (fun _ _ _ h => h) (Or.inr ⟨by rfl, rfl⟩) ?_ ?_; rotate_left; simp only [Act.put, q1, q2, q3, i64_w, i32_w]; rfl
                 refine pure_ (i := 23) (N := some 50) (v := undef) (a' := ?_) (bs 16777215 30) rfl rfl (any_of HT_.out (by kernel_rfl)) (fun _ _ _ h => h) (Or.inr ⟨by rfl, rfl⟩) ?_ ?_; rotate_left; simp only [Act.put, q1, q2, q3, i64_w, i32_w]; rfl
                 refine pure_ (i := 24) (N := some 51) (v := undef) (a' := ?_) (bs 33554431 30) rfl rfl (any_of HT_.out (by kernel_rfl)) (fun _ _ _ h => h) (Or.inr ⟨by rfl, rfl⟩) ?_ ?_; rotate_left; simp only [Act.put, q1, q2, q3, i64_w, i32_w]; rfl
                 refine pure_ (i := 25) (N := some 52) (v := undef) (a' := ?_) (bs 67108863 30) rfl rfl (any_of HT_.out (by kernel_rfl)) (fun _ _ _ h => h) (Or.inr ⟨by rfl, rfl⟩) ?_ ?_; rotate_left; simp only [Act.put, q1, q2, q3, i64_w, i32_w]; rfl
                 refine pure_ (i := 26) (N := some 53) (v := undef) (a' := ?_) (bs 134217727 30) rfl rfl (any_of HT_.out (by kernel_rfl)) (fun _ _ _ h => h) (Or.inr ⟨by rfl, rfl⟩) ?_ ?_; rotate_left; simp only [Act.put, q1, q2, q3, i64_w, i32_w]; rfl
                 refine pure_ (i := 27) (N := some 54) (v := undef) (a' := ?_) (bs 268435455 30) rfl rfl (any_of HT_.out (by kernel_rfl)) (fun _ _ _ h => h) (Or.inr ⟨by rfl, rfl⟩) ?_ ?_; rotate_left; simp only [Act.put, q1, q2, q3, i64_w, i32_w]; rfl
                 refine pure_ (i := 28) (N := some 55) (v := ?_) (a' := ?_) (bs 536870911 30) rfl rfl (any_of HT_.out (by kernel_rfl)) (fun _ _ _ h => h) (Or.inl ⟨by rfl, ?_⟩) ?_ ?_; rotate_left; intro w'; go_simp; with_reducible rfl; rotate_left; simp only [Act.put, q1, q2, q3, i64_w, i32_w]; rfl
                 refine pure_ (i := 29) (N := some 56) (v := ?_) (a' := ?_) (bs 1073741823 30) rfl rfl (any_of HT_.out (by kernel_rfl)) (fun _ _ _ h => h) (Or.inl ⟨by rfl, ?_⟩) ?_ ?_; rotate_left; intro w'; go_simp; with_reducible rfl; rotate_left; simp only [Act.put, q1, q2, q3, i64_w, i32_w]; rfl
                 refine done_ (done_of HT_.out (by kernel_rfl)) ?_
                 try go_wp2
                 go_roundg k2
                 case measure => have := HJ1.out; have := HK2.out; omega
                 case rel => exact ⟨(wrap64 (x3_2 + 1)), (by rfl), H', ⟨by have := HJ1.out; have := HK2.out; omega⟩, ⟨by (with_reducible repeat (refine blk_drewN ?_ _)); exact BK138.out⟩, ⟨by repeat ((with_reducible first | exact HB.out | apply pw_below_drewN))⟩⟩
             · replace c14 := Bool.eq_false_iff.mpr c14
               subst c14
               have H1 : (some false) = some r := by rw [if_neg (show ¬ (false = true) by decide)] at H; exact H
               clear H
               have H := H1
               clear H1
               obtain rfl := Option.some.inj H
               have hcz42_0 : wr.cell? ⟨gb138, 0, none⟩ = some (.int .i64 a0_0) := (blk_cell BK138.out 0).trans rfl
               have hcz42_1 : wr.cell? ⟨gb138, 1, none⟩ = some (.slice A0_1 l0_1.length c0_1) := (blk_cell BK138.out 1).trans rfl
               have hfz42_0 := blk_frozen BK138.out 0
               have hfz42_1 := blk_frozen BK138.out 1
               have p140 : 0 ≤ (x3_2 : Int) := of_decide_eq_true (by (with_reducible assumption))
               have q140 : x3_2 < (l0_1.length : Int) := of_decide_eq_true (by (with_reducible assumption))
               obtain ⟨ad140, A140_0, c140_0, e140, hx140_0, hx140_1, hl140_0, hi140_0⟩ := at_T65 HR0_1.out x3_2 p140 q140
               cases e140
               replace hx140_0 := (HB.out.cell (World.block_lt_of_cell? w _ hx140_0)).trans hx140_0
               replace hx140_1 := (HB.out.cell (World.block_lt_of_cell? w _ hx140_1)).trans hx140_1
               have HR140_0 := am hi140_0
               have HC140_0 := am hl140_0
               clear hi140_0 hl140_0
               replace p140 := eq_true p140
               replace q140 := eq_true q140
               try go_wp2_with (((with_reducible refine gate_dst (N := 4) rfl ?_); (try (refine gate_guard (by rfl) ?_; dsimp only)); refine box_event ?hg (N := 4) ?hd (cs := #[.slice none 0 0, .int .i64 0]) (t := 65) ?hr ?_; (case hd => rfl); (case hg => rfl); (case hr => (go_simp; done)); intro gb141 hg w43 hbox hb; have n0_ := am (blk_below (g := gb138) (o := .cells #[.int .i64 a0_0, .slice (some ad140) l0_1.length c0_1] 28 (0, 0)) (by exact BK138.out) hb); have n1_ := am (below_step (by repeat ((with_reducible exact HB.out))) hb); have n2_ := am (hbox); have n3_ := am ((by rw [hg]; exact (below_size (by repeat ((with_reducible exact HB.out)))) : w.heap.size ≤ gb141)); have n4_ := am ((by rw [hg]; exact (below_size (by repeat ((with_reducible exact HB.out)))) : w.heap.size ≤ gb141)); have n5_ := am ((by rw [hg]; exact Nat.ne_of_lt (blk_lt (g := gb138) (o := .cells #[.int .i64 a0_0, .slice (some ad140) l0_1.length c0_1] 28 (0, 0)) (by exact BK138.out)) : gb138 ≠ gb141)); have n6_ := am ((by rw [hg]; exact Nat.ne_of_gt (blk_lt (g := gb138) (o := .cells #[.int .i64 a0_0, .slice (some ad140) l0_1.length c0_1] 28 (0, 0)) (by exact BK138.out)) : gb141 ≠ gb138)); clear BK138; clear HB; have BK138 := n0_; have HB := n1_; have BK141 := n2_; have GW141 := n3_; have GE141 := n4_; have NB138_141 := n5_; have NB141_138 := n6_; clear n0_ n1_ n2_ n3_ n4_ n5_ n6_; clear hb hbox hg; have hnb44 := NB141_138.out; have hnc44 := NB138_141.out; have hcz45_0 : w43.cell? ⟨gb141, 0, none⟩ = some (.slice none 0 0) := (blk_cell BK141.out 0).trans rfl; have hcz45_1 : w43.cell? ⟨gb141, 1, none⟩ = some (.int .i64 0) := (blk_cell BK141.out 1).trans rfl; have hfz45_0 := blk_frozen BK141.out 0; have hfz45_1 := blk_frozen BK141.out 1))
               have n0_ : Aside0 (((w43.setCell ⟨gb141, 0, none⟩ (.slice A140_0 ((rd_T65 l0_1 x3_2).f0).length c140_0)).setCell ⟨gb141, 1, none⟩ (.int .i64 ((rd_T65 l0_1 x3_2).f1))).heap[gb138]? = some (.cells #[.int .i64 a0_0, .slice (some ad140) l0_1.length c0_1] 28 (0, 0))) := ⟨by (with_reducible repeat (refine blk_drew ?_)); refine blk_far ?_ NB138_141.out _; (with_reducible repeat (refine blk_drew ?_)); refine blk_far ?_ NB138_141.out _; (with_reducible repeat (refine blk_drew ?_)); exact BK138.out⟩
               have n1_ : Aside0 (((w43.setCell ⟨gb141, 0, none⟩ (.slice A140_0 ((rd_T65 l0_1 x3_2).f0).length c140_0)).setCell ⟨gb141, 1, none⟩ (.int .i64 ((rd_T65 l0_1 x3_2).f1))).heap[gb141]? = some (.cells #[.slice A140_0 ((rd_T65 l0_1 x3_2).f0).length c140_0, .int .i64 ((rd_T65 l0_1 x3_2).f1)] 65 (0, 0))) := ⟨by (with_reducible repeat (refine blk_drew ?_)); refine blk_put (cs := #[.slice A140_0 ((rd_T65 l0_1 x3_2).f0).length c140_0, .int .i64 0]) ?_ 1 _ rfl; (with_reducible repeat (refine blk_drew ?_)); refine blk_put (cs := #[.slice none 0 0, .int .i64 0]) ?_ 0 _ rfl; (with_reducible repeat (refine blk_drew ?_)); exact BK141.out⟩
               have n2_ : Aside0 (Below w.heap.size w ((w43.setCell ⟨gb141, 0, none⟩ (.slice A140_0 ((rd_T65 l0_1 x3_2).f0).length c140_0)).setCell ⟨gb141, 1, none⟩ (.int .i64 ((rd_T65 l0_1 x3_2).f1)))) := ⟨by repeat ((with_reducible first | exact HB.out | refine below_set ?_ GE141.out))⟩
               (try clear BK138)
               (try clear BK141)
               (try clear HB)
               generalize ((w43.setCell ⟨gb141, 0, none⟩ (.slice A140_0 ((rd_T65 l0_1 x3_2).f0).length c140_0)).setCell ⟨gb141, 1, none⟩ (.int .i64 ((rd_T65 l0_1 x3_2).f1))) = w46 at n0_ n1_ n2_ ⊢
               have BK138 := n0_
               have BK141 := n1_
               have HB := n2_
               clear n0_ n1_ n2_
               have n0_ := am (blk_drew BK138.out)
               have n1_ := am (blk_drew BK141.out)
               have n2_ := am (below_drew1 HB.out)
               clear BK138
               clear BK141
               clear HB
               have BK138 := n0_
               have BK141 := n1_
               have HB := n2_
               clear n0_ n1_ n2_
               refine start_ (n := 30) (S := fun w' => w'.cell? ⟨gb141, 0, none⟩ = some (.slice A140_0 ((rd_T65 l0_1 x3_2).f0).length c140_0) ∧ w'.cell? ⟨gb141, 1, none⟩ = some (.int .i64 ((rd_T65 l0_1 x3_2).f1)) ∧ w'.cell? ⟨gb138, 0, none⟩ = some (.int .i64 a0_0) ∧ w'.cell? ⟨gb138, 1, none⟩ = some (.slice (some ad140) l0_1.length c0_1)) (ds := []) (bs 0 30) (by kernel_rfl) rfl rfl ⟨(blk_cell BK141.out 0).trans rfl, (blk_cell BK141.out 1).trans rfl, (blk_cell BK138.out 0).trans rfl, (blk_cell BK138.out 1).trans rfl⟩ (fun hHeld => ?_); refine with_tabW spec_l03Is.tab7 spec_l03Is.bits7 (fun HT_ HW_ => ?_)
               generalize w46.drew = w47 at BK138 BK141 HB hHeld ⊢
               refine pure_ (i := 0) (N := some 27) (v := ?_) (a' := ?_) (bs 1 30) rfl rfl (any_of HT_.out (by kernel_rfl)) (fun _ _ _ h => h) (Or.inl ⟨by rfl, ?_⟩) ?_ ?_; rotate_left; intro w'; go_simp; with_reducible rfl; rotate_left; simp only [Act.put, q1, q2, q3, i64_w, i32_w]; rfl
               refine take_ (i := 1) (N := some 28) (v := ?_) (a' := ?_) (bs 3 30) rfl rfl (take_ofW HT_.out HW_.out (by kernel_rfl)) (fun _ _ _ h => h) (Or.inl ⟨by rfl, ?_⟩) hHeld ?_ ?_; rotate_left; rintro w' ⟨s0, s1, s2, s3⟩; go_simp; with_reducible rfl; rotate_left; simp only [Act.put, q1, q2, q3, i64_w, i32_w]; rfl
               refine one_ (i := 2) (N := some 29) (bs 7 30) rfl rfl (one_of HT_.out (by kernel_rfl)) (by decide) (fun K hK => ?_)
               refine goes_ Try.func76 (by kernel_rfl) rfl #[.slice A140_0 ((rd_T65 l0_1 x3_2).f0).length c140_0] (by rfl) rfl rfl (by (try simp only [List.map_toArray, List.map_cons, List.map_nil]); rfl) ?_
               with_reducible refine (spec_l01Is.calls k2 _ _ ((rd_T65 l0_1 x3_2).f0) true _ ?side1 ?side2 A11.out).mono ?_
               (case side1 => repeat (exact (Kd.C_below HR140_0.out HB.out)))
               (case side2 => exact HC140_0.out)
               rintro e w48 ⟨rfl, hb⟩
               refine ⟨_, rfl, ?_⟩
               have n0_ := am (blk_below (g := gb138) (o := .cells #[.int .i64 a0_0, .slice (some ad140) l0_1.length c0_1] 28 (0, 0)) (by exact BK138.out) hb)
               have n1_ := am (blk_below (g := gb141) (o := .cells #[.slice A140_0 ((rd_T65 l0_1 x3_2).f0).length c140_0, .int .i64 ((rd_T65 l0_1 x3_2).f1)] 65 (0, 0)) (by exact BK141.out) hb)
               have n2_ := am (below_step (by repeat ((with_reducible exact HB.out))) hb)
               clear BK138
               clear BK141
               clear HB
               have BK138 := n0_
               have BK141 := n1_
               have HB := n2_
               clear n0_ n1_ n2_
               (try clear hb)
               (try clear hb2)
               (try clear hk)
               (try clear hi)
               refine hK.out _ _ ⟨(blk_cell BK141.out 0).trans rfl, (blk_cell BK141.out 1).trans rfl, (blk_cell BK138.out 0).trans rfl, (blk_cell BK138.out 1).trans rfl⟩ (fun hHeld => ?_)
               clear hK K
               refine norm_ (a' := ?_) ?_ ?_; rotate_left; show Act.put _ (some 29) _ = _; simp only [Act.put, q1, q2, q3, i64_w, i32_w]; rfl
               refine pure_ (i := 3) (N := some 30) (v := ?_) (a' := ?_) (bs 15 30) rfl rfl (any_of HT_.out (by kernel_rfl)) (fun _ _ _ h => h) (Or.inl ⟨by rfl, ?_⟩) ?_ ?_; rotate_left; intro w'; go_simp; with_reducible rfl; rotate_left; simp only [Act.put, q1, q2, q3, i64_w, i32_w]; rfl
               refine pure_ (i := 4) (N := some 31) (v := ?_) (a' := ?_) (bs 31 30) rfl rfl (any_of HT_.out (by kernel_rfl)) (fun _ _ _ h => h) (Or.inl ⟨by rfl, ?_⟩) ?_ ?_; rotate_left; intro w'; go_simp; with_reducible rfl; rotate_left; simp only [Act.put, q1, q2, q3, i64_w, i32_w]; rfl
               refine pure_ (i := 5) (N := some 32) (v := ?_) (a' := ?_) (bs 63 30) rfl rfl (any_of HT_.out (by kernel_rfl)) (fun _ _ _ h => h) (Or.inl ⟨by rfl, ?_⟩) ?_ ?_; rotate_left; intro w'; go_simp; with_reducible rfl; rotate_left; simp only [Act.put, q1, q2, q3, i64_w, i32_w]; rfl
               refine pure_ (i := 7) (N := some 34) (v := ?_) (a' := ?_) (bs 191 30) rfl rfl (any_of HT_.out (by kernel_rfl)) (fun _ _ _ h => h) (Or.inl ⟨by rfl, ?_⟩) ?_ ?_; rotate_left; intro w'; go_simp; with_reducible rfl; rotate_left; simp only [Act.put, q1, q2, q3, i64_w, i32_w]; rfl
               refine take_ (i := 6) (N := some 33) (v := ?_) (a' := ?_) (bs 255 30) rfl rfl (take_ofW HT_.out HW_.out (by kernel_rfl)) (fun _ _ _ h => h) (Or.inl ⟨by rfl, ?_⟩) hHeld ?_ ?_; rotate_left; rintro w' ⟨s0, s1, s2, s3⟩; go_simp; with_reducible rfl; rotate_left; simp only [Act.put, q1, q2, q3, i64_w, i32_w]; rfl
               refine take_ (i := 8) (N := some 35) (v := ?_) (a' := ?_) (bs 511 30) rfl rfl (take_ofW HT_.out HW_.out (by kernel_rfl)) (fun _ _ _ h => h) (Or.inl ⟨by rfl, ?_⟩) hHeld ?_ ?_; rotate_left; rintro w' ⟨s0, s1, s2, s3⟩; go_simp; with_reducible rfl; rotate_left; simp only [Act.put, q1, q2, q3, i64_w, i32_w]; rfl
               refine pure_ (i := 9) (N := some 36) (v := ?_) (a' := ?_) (bs 1023 30) rfl rfl (any_of HT_.out (by kernel_rfl)) (fun _ _ _ h => h) (Or.inl ⟨by rfl, ?_⟩) ?_ ?_; rotate_left; intro w'; go_simp; with_reducible rfl; rotate_left; simp only [Act.put, q1, q2, q3, i64_w, i32_w]; rfl
               refine one_ (i := 10) (N := some 37) (bs 2047 30) rfl rfl (one_of HT_.out (by kernel_rfl)) (by decide) (fun K hK => ?_)
               refine goes_ Try.func67 (by kernel_rfl) rfl #[.int .i64 ((rd_T65 l0_1 x3_2).f1), .int .i64 1, .int .i64 (wrap64 (a0_0 - 1))] (by rfl) rfl rfl (by (try simp only [List.map_toArray, List.map_cons, List.map_nil]); rfl) ?_
               with_reducible refine (spec_l01In.calls ((rd_T65 l0_1 x3_2).f1) 1 (wrap64 (a0_0 - 1)) false _ A13.out).mono ?_
               rintro e w' ⟨rfl, ⟨nd, rfl⟩⟩
               refine ⟨_, rfl, ?_⟩
               refine hK.out _ _ ⟨(blk_cell BK141.out 0).trans rfl, (blk_cell BK141.out 1).trans rfl, (blk_cell BK138.out 0).trans rfl, (blk_cell BK138.out 1).trans rfl⟩ (fun hHeld => ?_)
               clear hK K
               refine norm_ (a' := ?_) ?_ ?_; rotate_left; show Act.put _ (some 37) _ = _; simp only [Act.put, q1, q2, q3, i64_w, i32_w]; rfl
               refine pure_ (i := 11) (N := some 38) (v := ?_) (a' := ?_) (bs 4095 30) rfl rfl (any_of HT_.out (by kernel_rfl)) (fun _ _ _ h => h) (Or.inl ⟨by rfl, ?_⟩) ?_ ?_; rotate_left; intro w'; go_simp; with_reducible rfl; rotate_left; simp only [Act.put, q1, q2, q3, i64_w, i32_w]; rfl
               refine pure_ (i := 12) (N := some 39) (v := ?_) (a' := ?_) (bs 8191 30) rfl rfl (any_of HT_.out (by kernel_rfl)) (fun _ _ _ h => h) (Or.inl ⟨by rfl, ?_⟩) ?_ ?_; rotate_left; intro w'; go_simp; with_reducible rfl; rotate_left; simp only [Act.put, q1, q2, q3, i64_w, i32_w]; rfl
               refine pure_ (i := 13) (N := some 40) (v := ?_) (a' := ?_) (bs 16383 30) rfl rfl (any_of HT_.out (by kernel_rfl)) (fun _ _ _ h => h) (Or.inl ⟨by rfl, ?_⟩) ?_ ?_; rotate_left; intro w'; go_simp; with_reducible rfl; rotate_left; simp only [Act.put, q1, q2, q3, i64_w, i32_w]; rfl
               refine pure_ (i := 14) (N := some 41) (v := undef) (a' := ?_) (bs 32767 30) rfl rfl (any_of HT_.out (by kernel_rfl)) (fun _ _ _ h => h) (Or.inr ⟨by rfl, rfl⟩) ?_ ?_; rotate_left; simp only [Act.put, q1, q2, q3, i64_w, i32_w]; rfl
               refine pure_ (i := 15) (N := some 42) (v := undef) (a' := ?_) (bs 65535 30) rfl rfl (any_of HT_.out (by kernel_rfl)) (fun _ _ _ h => h) (Or.inr ⟨by rfl, rfl⟩) ?_ ?_; rotate_left; simp only [Act.put, q1, q2, q3, i64_w, i32_w]; rfl
               refine pure_ (i := 16) (N := some 43) (v := undef) (a' := ?_) (bs 131071 30) rfl rfl (any_of HT_.out (by kernel_rfl)) (fun _ _ _ h => h) (Or.inr ⟨by rfl, rfl⟩) ?_ ?_; rotate_left; simp only [Act.put, q1, q2, q3, i64_w, i32_w]; rfl
               refine pure_ (i := 17) (N := some 44) (v := undef) (a' := ?_) (bs 262143 30) rfl rfl (any_of HT_.out (by kernel_rfl)) (fun _ _ _ h => h) (Or.inr ⟨by rfl, rfl⟩) ?_ ?_; rotate_left; simp only [Act.put, q1, q2, q3, i64_w, i32_w]; rfl
               refine pure_ (i := 18) (N := some 45) (v := undef) (a' := ?_) (bs 524287 30) rfl rfl (any_of HT_.out (by kernel_rfl)) (fun _ _ _ h => h) (Or.inr ⟨by rfl, rfl⟩) ?_ ?_; rotate_left; simp only [Act.put, q1, q2, q3, i64_w, i32_w]; rfl
               refine pure_ (i := 19) (N := some 46) (v := undef) (a' := ?_) (bs 1048575 30) rfl rfl (any_of HT_.out (by kernel_rfl)) (fun _ _ _ h => h) (Or.inr ⟨by rfl, rfl⟩) ?_ ?_; rotate_left; simp only [Act.put, q1, q2, q3, i64_w, i32_w]; rfl
               refine pure_ (i := 20) (N := some 47) (v := undef) (a' := ?_) (bs 2097151 30) rfl rfl (any_of HT_.out (by kernel_rfl)) (fun _ _ _ h => h) (Or.inr ⟨by rfl, rfl⟩) ?_ ?_; rotate_left; simp only [Act.put, q1, q2, q3, i64_w, i32_w]; rfl
               refine pure_ (i := 21) (N := some 48) (v := undef) (a' := ?_) (bs 4194303 30) rfl rfl (any_of HT_.out (by kernel_rfl)) (fun _ _ _ h => h) (Or.inr ⟨by rfl, rfl⟩) ?_ ?_; rotate_left; simp only [Act.put, q1, q2, q3, i64_w, i32_w]; rfl
               refine pure_ (i := 22) (N := some 49) (v := undef) (a' := ?_) (bs 8388607 30) rfl rfl (any_of HT_.out (by kernel_rfl)) (fun _ _ _ h => h) (Or.inr ⟨by rfl, rfl⟩) ?_ ?_; rotate_left; simp only [Act.put, q1, q2, q3, i64_w, i32_w]; rfl
               refine pure_ (i := 23) (N := some 50) (v := undef) (a' := ?_) (bs 16777215 30) rfl rfl (any_of HT_.out (by kernel_rfl)) (fun _ _ _ h => h) (Or.inr ⟨by rfl, rfl⟩) ?_ ?_; rotate_left; simp only [Act.put, q1, q2, q3, i64_w, i32_w]; rfl
               refine pure_ (i := 24) (N := some 51) (v := undef) (a' := ?_) (bs 33554431 30) rfl rfl (any_of HT_.out (by kernel_rfl)) (fun _ _ _ h => h) (Or.inr ⟨by rfl, rfl⟩) ?_ ?_; rotate_left; simp only [Act.put, q1, q2, q3, i64_w, i32_w]; rfl
               refine pure_ (i := 25) (N := some 52) (v := undef) (a' := ?_) (bs 67108863 30) rfl rfl (any_of HT_.out (by kernel_rfl)) (fun _ _ _ h => h) (Or.inr ⟨by rfl, rfl⟩) ?_ ?_; rotate_left; simp only [Act.put, q1, q2, q3, i64_w, i32_w]; rfl
               refine pure_ (i := 26) (N := some 53) (v := undef) (a' := ?_) (bs 134217727 30) rfl rfl (any_of HT_.out (by kernel_rfl)) (fun _ _ _ h => h) (Or.inr ⟨by rfl, rfl⟩) ?_ ?_; rotate_left; simp only [Act.put, q1, q2, q3, i64_w, i32_w]; rfl
               refine pure_ (i := 27) (N := some 54) (v := undef) (a' := ?_) (bs 268435455 30) rfl rfl (any_of HT_.out (by kernel_rfl)) (fun _ _ _ h => h) (Or.inr ⟨by rfl, rfl⟩) ?_ ?_; rotate_left; simp only [Act.put, q1, q2, q3, i64_w, i32_w]; rfl
               refine pure_ (i := 28) (N := some 55) (v := undef) (a' := ?_) (bs 536870911 30) rfl rfl (any_of HT_.out (by kernel_rfl)) (fun _ _ _ h => h) (Or.inr ⟨by rfl, rfl⟩) ?_ ?_; rotate_left; simp only [Act.put, q1, q2, q3, i64_w, i32_w]; rfl
               refine pure_ (i := 29) (N := some 56) (v := ?_) (a' := ?_) (bs 1073741823 30) rfl rfl (any_of HT_.out (by kernel_rfl)) (fun _ _ _ h => h) (Or.inl ⟨by rfl, ?_⟩) ?_ ?_; rotate_left; intro w'; go_simp; with_reducible rfl; rotate_left; simp only [Act.put, q1, q2, q3, i64_w, i32_w]; rfl
               refine done_ (done_of HT_.out (by kernel_rfl)) ?_
               try go_wp2
               go_ret
               exact ⟨by rfl, by repeat ((with_reducible first | exact HB.out | apply pw_below_drewN))⟩
           · replace c12 := Bool.eq_false_iff.mpr c12
             subst c12
             have H1 : (some false) = some r := by rw [if_neg (show ¬ (false = true) by decide)] at H; exact H
             clear H
             have H := H1
             clear H1
             obtain rfl := Option.some.inj H
             have hcz49_0 : wr.cell? ⟨gb138, 0, none⟩ = some (.int .i64 a0_0) := (blk_cell BK138.out 0).trans rfl
             have hcz49_1 : wr.cell? ⟨gb138, 1, none⟩ = some (.slice A0_1 l0_1.length c0_1) := (blk_cell BK138.out 1).trans rfl
             have hfz49_0 := blk_frozen BK138.out 0
             have hfz49_1 := blk_frozen BK138.out 1
             have p140 : 0 ≤ (x3_2 : Int) := of_decide_eq_true (by (with_reducible assumption))
             have q140 : x3_2 < (l0_1.length : Int) := of_decide_eq_true (by (with_reducible assumption))
             obtain ⟨ad140, A140_0, c140_0, e140, hx140_0, hx140_1, hl140_0, hi140_0⟩ := at_T65 HR0_1.out x3_2 p140 q140
             cases e140
             replace hx140_0 := (HB.out.cell (World.block_lt_of_cell? w _ hx140_0)).trans hx140_0
             replace hx140_1 := (HB.out.cell (World.block_lt_of_cell? w _ hx140_1)).trans hx140_1
             have HR140_0 := am hi140_0
             have HC140_0 := am hl140_0
             clear hi140_0 hl140_0
             replace p140 := eq_true p140
             replace q140 := eq_true q140
             try go_wp2_with (((with_reducible refine gate_dst (N := 4) rfl ?_); (try (refine gate_guard (by rfl) ?_; dsimp only)); refine box_event ?hg (N := 4) ?hd (cs := #[.slice none 0 0, .int .i64 0]) (t := 65) ?hr ?_; (case hd => rfl); (case hg => rfl); (case hr => (go_simp; done)); intro gb141 hg w50 hbox hb; have n0_ := am (blk_below (g := gb138) (o := .cells #[.int .i64 a0_0, .slice (some ad140) l0_1.length c0_1] 28 (0, 0)) (by exact BK138.out) hb); have n1_ := am (below_step (by repeat ((with_reducible exact HB.out))) hb); have n2_ := am (hbox); have n3_ := am ((by rw [hg]; exact (below_size (by repeat ((with_reducible exact HB.out)))) : w.heap.size ≤ gb141)); have n4_ := am ((by rw [hg]; exact (below_size (by repeat ((with_reducible exact HB.out)))) : w.heap.size ≤ gb141)); have n5_ := am ((by rw [hg]; exact Nat.ne_of_lt (blk_lt (g := gb138) (o := .cells #[.int .i64 a0_0, .slice (some ad140) l0_1.length c0_1] 28 (0, 0)) (by exact BK138.out)) : gb138 ≠ gb141)); have n6_ := am ((by rw [hg]; exact Nat.ne_of_gt (blk_lt (g := gb138) (o := .cells #[.int .i64 a0_0, .slice (some ad140) l0_1.length c0_1] 28 (0, 0)) (by exact BK138.out)) : gb141 ≠ gb138)); clear BK138; clear HB; have BK138 := n0_; have HB := n1_; have BK141 := n2_; have GW141 := n3_; have GE141 := n4_; have NB138_141 := n5_; have NB141_138 := n6_; clear n0_ n1_ n2_ n3_ n4_ n5_ n6_; clear hb hbox hg; have hnb51 := NB141_138.out; have hnc51 := NB138_141.out; have hcz52_0 : w50.cell? ⟨gb141, 0, none⟩ = some (.slice none 0 0) := (blk_cell BK141.out 0).trans rfl; have hcz52_1 : w50.cell? ⟨gb141, 1, none⟩ = some (.int .i64 0) := (blk_cell BK141.out 1).trans rfl; have hfz52_0 := blk_frozen BK141.out 0; have hfz52_1 := blk_frozen BK141.out 1))
             have n0_ : Aside0 (((w50.setCell ⟨gb141, 0, none⟩ (.slice A140_0 ((rd_T65 l0_1 x3_2).f0).length c140_0)).setCell ⟨gb141, 1, none⟩ (.int .i64 ((rd_T65 l0_1 x3_2).f1))).heap[gb138]? = some (.cells #[.int .i64 a0_0, .slice (some ad140) l0_1.length c0_1] 28 (0, 0))) := ⟨by (with_reducible repeat (refine blk_drew ?_)); refine blk_far ?_ NB138_141.out _; (with_reducible repeat (refine blk_drew ?_)); refine blk_far ?_ NB138_141.out _; (with_reducible repeat (refine blk_drew ?_)); exact BK138.out⟩
             have n1_ : Aside0 (((w50.setCell ⟨gb141, 0, none⟩ (.slice A140_0 ((rd_T65 l0_1 x3_2).f0).length c140_0)).setCell ⟨gb141, 1, none⟩ (.int .i64 ((rd_T65 l0_1 x3_2).f1))).heap[gb141]? = some (.cells #[.slice A140_0 ((rd_T65 l0_1 x3_2).f0).length c140_0, .int .i64 ((rd_T65 l0_1 x3_2).f1)] 65 (0, 0))) := ⟨by (with_reducible repeat (refine blk_drew ?_)); refine blk_put (cs := #[.slice A140_0 ((rd_T65 l0_1 x3_2).f0).length c140_0, .int .i64 0]) ?_ 1 _ rfl; (with_reducible repeat (refine blk_drew ?_)); refine blk_put (cs := #[.slice none 0 0, .int .i64 0]) ?_ 0 _ rfl; (with_reducible repeat (refine blk_drew ?_)); exact BK141.out⟩
             have n2_ : Aside0 (Below w.heap.size w ((w50.setCell ⟨gb141, 0, none⟩ (.slice A140_0 ((rd_T65 l0_1 x3_2).f0).length c140_0)).setCell ⟨gb141, 1, none⟩ (.int .i64 ((rd_T65 l0_1 x3_2).f1)))) := ⟨by repeat ((with_reducible first | exact HB.out | refine below_set ?_ GE141.out))⟩
             (try clear BK138)
             (try clear BK141)
             (try clear HB)
             generalize ((w50.setCell ⟨gb141, 0, none⟩ (.slice A140_0 ((rd_T65 l0_1 x3_2).f0).length c140_0)).setCell ⟨gb141, 1, none⟩ (.int .i64 ((rd_T65 l0_1 x3_2).f1))) = w53 at n0_ n1_ n2_ ⊢
             have BK138 := n0_
             have BK141 := n1_
             have HB := n2_
             clear n0_ n1_ n2_
             have n0_ := am (blk_drew BK138.out)
             have n1_ := am (blk_drew BK141.out)
             have n2_ := am (below_drew1 HB.out)
             clear BK138
             clear BK141
             clear HB
             have BK138 := n0_
             have BK141 := n1_
             have HB := n2_
             clear n0_ n1_ n2_
             refine start_ (n := 30) (S := fun w' => w'.cell? ⟨gb141, 0, none⟩ = some (.slice A140_0 ((rd_T65 l0_1 x3_2).f0).length c140_0) ∧ w'.cell? ⟨gb141, 1, none⟩ = some (.int .i64 ((rd_T65 l0_1 x3_2).f1))) (ds := []) (bs 0 30) (by kernel_rfl) rfl rfl ⟨(blk_cell BK141.out 0).trans rfl, (blk_cell BK141.out 1).trans rfl⟩ (fun hHeld => ?_); refine with_tabW spec_l03Is.tab7 spec_l03Is.bits7 (fun HT_ HW_ => ?_)
             generalize w53.drew = w54 at BK138 BK141 HB hHeld ⊢
             refine pure_ (i := 0) (N := some 27) (v := ?_) (a' := ?_) (bs 1 30) rfl rfl (any_of HT_.out (by kernel_rfl)) (fun _ _ _ h => h) (Or.inl ⟨by rfl, ?_⟩) ?_ ?_; rotate_left; intro w'; go_simp; with_reducible rfl; rotate_left; simp only [Act.put, q1, q2, q3, i64_w, i32_w]; rfl
             refine take_ (i := 1) (N := some 28) (v := ?_) (a' := ?_) (bs 3 30) rfl rfl (take_ofW HT_.out HW_.out (by kernel_rfl)) (fun _ _ _ h => h) (Or.inl ⟨by rfl, ?_⟩) hHeld ?_ ?_; rotate_left; rintro w' ⟨s0, s1⟩; go_simp; with_reducible rfl; rotate_left; simp only [Act.put, q1, q2, q3, i64_w, i32_w]; rfl
             refine one_ (i := 2) (N := some 29) (bs 7 30) rfl rfl (one_of HT_.out (by kernel_rfl)) (by decide) (fun K hK => ?_)
             refine goes_ Try.func76 (by kernel_rfl) rfl #[.slice A140_0 ((rd_T65 l0_1 x3_2).f0).length c140_0] (by rfl) rfl rfl (by (try simp only [List.map_toArray, List.map_cons, List.map_nil]); rfl) ?_
             with_reducible refine (spec_l01Is.calls k2 _ _ ((rd_T65 l0_1 x3_2).f0) false _ ?side1 ?side2 A11.out).mono ?_
             (case side1 => repeat (exact (Kd.C_below HR140_0.out HB.out)))
             (case side2 => exact HC140_0.out)
             rintro e w55 ⟨rfl, hb⟩
             refine ⟨_, rfl, ?_⟩
             have n0_ := am (blk_below (g := gb138) (o := .cells #[.int .i64 a0_0, .slice (some ad140) l0_1.length c0_1] 28 (0, 0)) (by exact BK138.out) hb)
             have n1_ := am (blk_below (g := gb141) (o := .cells #[.slice A140_0 ((rd_T65 l0_1 x3_2).f0).length c140_0, .int .i64 ((rd_T65 l0_1 x3_2).f1)] 65 (0, 0)) (by exact BK141.out) hb)
             have n2_ := am (below_step (by repeat ((with_reducible exact HB.out))) hb)
             clear BK138
             clear BK141
             clear HB
             have BK138 := n0_
             have BK141 := n1_
             have HB := n2_
             clear n0_ n1_ n2_
             (try clear hb)
             (try clear hb2)
             (try clear hk)
             (try clear hi)
             refine hK.out _ _ ⟨(blk_cell BK141.out 0).trans rfl, (blk_cell BK141.out 1).trans rfl⟩ (fun hHeld => ?_)
             clear hK K
             refine norm_ (a' := ?_) ?_ ?_; rotate_left; show Act.put _ (some 29) _ = _; simp only [Act.put, q1, q2, q3, i64_w, i32_w]; rfl
             refine pure_ (i := 3) (N := some 30) (v := ?_) (a' := ?_) (bs 15 30) rfl rfl (any_of HT_.out (by kernel_rfl)) (fun _ _ _ h => h) (Or.inl ⟨by rfl, ?_⟩) ?_ ?_; rotate_left; intro w'; go_simp; with_reducible rfl; rotate_left; simp only [Act.put, q1, q2, q3, i64_w, i32_w]; rfl
             refine pure_ (i := 4) (N := some 31) (v := ?_) (a' := ?_) (bs 31 30) rfl rfl (any_of HT_.out (by kernel_rfl)) (fun _ _ _ h => h) (Or.inl ⟨by rfl, ?_⟩) ?_ ?_; rotate_left; intro w'; go_simp; with_reducible rfl; rotate_left; simp only [Act.put, q1, q2, q3, i64_w, i32_w]; rfl
             refine pure_ (i := 5) (N := some 32) (v := undef) (a' := ?_) (bs 63 30) rfl rfl (any_of HT_.out (by kernel_rfl)) (fun _ _ _ h => h) (Or.inr ⟨by rfl, rfl⟩) ?_ ?_; rotate_left; simp only [Act.put, q1, q2, q3, i64_w, i32_w]; rfl
             refine pure_ (i := 6) (N := some 33) (v := undef) (a' := ?_) (bs 127 30) rfl rfl (any_of HT_.out (by kernel_rfl)) (fun _ _ _ h => h) (Or.inr ⟨by rfl, rfl⟩) ?_ ?_; rotate_left; simp only [Act.put, q1, q2, q3, i64_w, i32_w]; rfl
             refine pure_ (i := 7) (N := some 34) (v := undef) (a' := ?_) (bs 255 30) rfl rfl (any_of HT_.out (by kernel_rfl)) (fun _ _ _ h => h) (Or.inr ⟨by rfl, rfl⟩) ?_ ?_; rotate_left; simp only [Act.put, q1, q2, q3, i64_w, i32_w]; rfl
             refine pure_ (i := 8) (N := some 35) (v := undef) (a' := ?_) (bs 511 30) rfl rfl (any_of HT_.out (by kernel_rfl)) (fun _ _ _ h => h) (Or.inr ⟨by rfl, rfl⟩) ?_ ?_; rotate_left; simp only [Act.put, q1, q2, q3, i64_w, i32_w]; rfl
             refine pure_ (i := 9) (N := some 36) (v := undef) (a' := ?_) (bs 1023 30) rfl rfl (any_of HT_.out (by kernel_rfl)) (fun _ _ _ h => h) (Or.inr ⟨by rfl, rfl⟩) ?_ ?_; rotate_left; simp only [Act.put, q1, q2, q3, i64_w, i32_w]; rfl
             refine pure_ (i := 10) (N := some 37) (v := undef) (a' := ?_) (bs 2047 30) rfl rfl (any_of HT_.out (by kernel_rfl)) (fun _ _ _ h => h) (Or.inr ⟨by rfl, rfl⟩) ?_ ?_; rotate_left; simp only [Act.put, q1, q2, q3, i64_w, i32_w]; rfl
             refine pure_ (i := 11) (N := some 38) (v := undef) (a' := ?_) (bs 4095 30) rfl rfl (any_of HT_.out (by kernel_rfl)) (fun _ _ _ h => h) (Or.inr ⟨by rfl, rfl⟩) ?_ ?_; rotate_left; simp only [Act.put, q1, q2, q3, i64_w, i32_w]; rfl
             refine pure_ (i := 12) (N := some 39) (v := ?_) (a' := ?_) (bs 8191 30) rfl rfl (any_of HT_.out (by kernel_rfl)) (fun _ _ _ h => h) (Or.inl ⟨by rfl, ?_⟩) ?_ ?_; rotate_left; intro w'; go_simp; with_reducible rfl; rotate_left; simp only [Act.put, q1, q2, q3, i64_w, i32_w]; rfl
             refine pure_ (i := 13) (N := some 40) (v := ?_) (a' := ?_) (bs 16383 30) rfl rfl (any_of HT_.out (by kernel_rfl)) (fun _ _ _ h => h) (Or.inl ⟨by rfl, ?_⟩) ?_ ?_; rotate_left; intro w'; go_simp; with_reducible rfl; rotate_left; simp only [Act.put, q1, q2, q3, i64_w, i32_w]; rfl
             refine pure_ (i := 14) (N := some 41) (v := undef) (a' := ?_) (bs 32767 30) rfl rfl (any_of HT_.out (by kernel_rfl)) (fun _ _ _ h => h) (Or.inr ⟨by rfl, rfl⟩) ?_ ?_; rotate_left; simp only [Act.put, q1, q2, q3, i64_w, i32_w]; rfl
             refine pure_ (i := 15) (N := some 42) (v := undef) (a' := ?_) (bs 65535 30) rfl rfl (any_of HT_.out (by kernel_rfl)) (fun _ _ _ h => h) (Or.inr ⟨by rfl, rfl⟩) ?_ ?_; rotate_left; simp only [Act.put, q1, q2, q3, i64_w, i32_w]; rfl
             refine pure_ (i := 16) (N := some 43) (v := undef) (a' := ?_) (bs 131071 30) rfl rfl (any_of HT_.out (by kernel_rfl)) (fun _ _ _ h => h) (Or.inr ⟨by rfl, rfl⟩) ?_ ?_; rotate_left; simp only [Act.put, q1, q2, q3, i64_w, i32_w]; rfl
             refine pure_ (i := 17) (N := some 44) (v := undef) (a' := ?_) (bs 262143 30) rfl rfl (any_of HT_.out (by kernel_rfl)) (fun _ _ _ h => h) (Or.inr ⟨by rfl, rfl⟩) ?_ ?_; rotate_left; simp only [Act.put, q1, q2, q3, i64_w, i32_w]; rfl
             refine pure_ (i := 18) (N := some 45) (v := undef) (a' := ?_) (bs 524287 30) rfl rfl (any_of HT_.out (by kernel_rfl)) (fun _ _ _ h => h) (Or.inr ⟨by rfl, rfl⟩) ?_ ?_; rotate_left; simp only [Act.put, q1, q2, q3, i64_w, i32_w]; rfl
             refine pure_ (i := 19) (N := some 46) (v := undef) (a' := ?_) (bs 1048575 30) rfl rfl (any_of HT_.out (by kernel_rfl)) (fun _ _ _ h => h) (Or.inr ⟨by rfl, rfl⟩) ?_ ?_; rotate_left; simp only [Act.put, q1, q2, q3, i64_w, i32_w]; rfl
             refine pure_ (i := 20) (N := some 47) (v := undef) (a' := ?_) (bs 2097151 30) rfl rfl (any_of HT_.out (by kernel_rfl)) (fun _ _ _ h => h) (Or.inr ⟨by rfl, rfl⟩) ?_ ?_; rotate_left; simp only [Act.put, q1, q2, q3, i64_w, i32_w]; rfl
             refine pure_ (i := 21) (N := some 48) (v := undef) (a' := ?_) (bs 4194303 30) rfl rfl (any_of HT_.out (by kernel_rfl)) (fun _ _ _ h => h) (Or.inr ⟨by rfl, rfl⟩) ?_ ?_; rotate_left; simp only [Act.put, q1, q2, q3, i64_w, i32_w]; rfl
             refine pure_ (i := 22) (N := some 49) (v := undef) (a' := ?_) (bs 8388607 30) rfl rfl (any_of HT_.out (by kernel_rfl)) (fun _ _ _ h => h) (Or.inr ⟨by rfl, rfl⟩) ?_ ?_; rotate_left; simp only [Act.put, q1, q2, q3, i64_w, i32_w]; rfl
             refine pure_ (i := 23) (N := some 50) (v := undef) (a' := ?_) (bs 16777215 30) rfl rfl (any_of HT_.out (by kernel_rfl)) (fun _ _ _ h => h) (Or.inr ⟨by rfl, rfl⟩) ?_ ?_; rotate_left; simp only [Act.put, q1, q2, q3, i64_w, i32_w]; rfl
             refine pure_ (i := 24) (N := some 51) (v := undef) (a' := ?_) (bs 33554431 30) rfl rfl (any_of HT_.out (by kernel_rfl)) (fun _ _ _ h => h) (Or.inr ⟨by rfl, rfl⟩) ?_ ?_; rotate_left; simp only [Act.put, q1, q2, q3, i64_w, i32_w]; rfl
             refine pure_ (i := 25) (N := some 52) (v := undef) (a' := ?_) (bs 67108863 30) rfl rfl (any_of HT_.out (by kernel_rfl)) (fun _ _ _ h => h) (Or.inr ⟨by rfl, rfl⟩) ?_ ?_; rotate_left; simp only [Act.put, q1, q2, q3, i64_w, i32_w]; rfl
             refine pure_ (i := 26) (N := some 53) (v := undef) (a' := ?_) (bs 134217727 30) rfl rfl (any_of HT_.out (by kernel_rfl)) (fun _ _ _ h => h) (Or.inr ⟨by rfl, rfl⟩) ?_ ?_; rotate_left; simp only [Act.put, q1, q2, q3, i64_w, i32_w]; rfl
             refine pure_ (i := 27) (N := some 54) (v := undef) (a' := ?_) (bs 268435455 30) rfl rfl (any_of HT_.out (by kernel_rfl)) (fun _ _ _ h => h) (Or.inr ⟨by rfl, rfl⟩) ?_ ?_; rotate_left; simp only [Act.put, q1, q2, q3, i64_w, i32_w]; rfl
             refine pure_ (i := 28) (N := some 55) (v := undef) (a' := ?_) (bs 536870911 30) rfl rfl (any_of HT_.out (by kernel_rfl)) (fun _ _ _ h => h) (Or.inr ⟨by rfl, rfl⟩) ?_ ?_; rotate_left; simp only [Act.put, q1, q2, q3, i64_w, i32_w]; rfl
             refine pure_ (i := 29) (N := some 56) (v := ?_) (a' := ?_) (bs 1073741823 30) rfl rfl (any_of HT_.out (by kernel_rfl)) (fun _ _ _ h => h) (Or.inl ⟨by rfl, ?_⟩) ?_ ?_; rotate_left; intro w'; go_simp; with_reducible rfl; rotate_left; simp only [Act.put, q1, q2, q3, i64_w, i32_w]; rfl
             refine done_ (done_of HT_.out (by kernel_rfl)) ?_
             try go_wp2
             go_ret
             exact ⟨by rfl, by repeat ((with_reducible exact HB.out))⟩
         · rw [if_neg c10] at H
           exact absurd H (by simp)
       · rw [if_neg c9] at H
         have c9b0 : decide (x3_2 < (l0_1.length : Int)) = false := decide_eq_false c9
         clear c9
         obtain rfl := Option.some.inj H
         have hcz56_0 : wr.cell? ⟨gb138, 0, none⟩ = some (.int .i64 a0_0) := (blk_cell BK138.out 0).trans rfl
         have hcz56_1 : wr.cell? ⟨gb138, 1, none⟩ = some (.slice A0_1 l0_1.length c0_1) := (blk_cell BK138.out 1).trans rfl
         have hfz56_0 := blk_frozen BK138.out 0
         have hfz56_1 := blk_frozen BK138.out 1
         go_wp2
         go_ret
         exact ⟨by rfl, by repeat ((with_reducible exact HB.out))⟩
end Go.Proofs.Ytgcgeoglhebonaa.P
end
