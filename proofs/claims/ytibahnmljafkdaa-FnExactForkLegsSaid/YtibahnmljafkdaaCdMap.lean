/- Maps that a call makes: look-ups, stores and ranges over them, told of lists of keys and values. -/
import Derived.Test.YtibahnmljafkdaaCdWMore
import Derived.Maps.OwnOps
import Derived.Maps.RangeWalk
namespace Go.Proofs.Ytibahnmljafkdaa.P
open Go.RowKit Go.Maps
open Go.ChangeMaps (setBlock)
open Go.MapKept
set_option linter.unusedSectionVars false
set_option linter.unusedVariables false
set_option linter.unusedSimpArgs false
section
variable {κ α : Type} [DecidableEq κ]
def kvGet (kv : List (κ × α)) (x : κ) : Option α := (kv.find? (fun p => decide (p.1 = x))).map (·.2)
def kvPut : List (κ × α) → κ → α → List (κ × α)
 | [], x, v => [(x, v)]
 | (y, u) :: r, x, v => if y = x then (x, v) :: r else (y, u) :: kvPut r x v
theorem kvGet_nil (x : κ) : kvGet ([] : List (κ × α)) x = none := rfl
theorem kvGet_cons (p : κ × α) (kv : List (κ × α)) (x : κ) : kvGet (p :: kv) x = if p.1 = x then some p.2 else kvGet kv x := by
 unfold kvGet
 rw [List.find?_cons]
 by_cases h : p.1 = x <;> simp [h]
theorem kvGet_put_same : ∀ (kv : List (κ × α)) (x : κ) (v : α), kvGet (kvPut kv x v) x = some v
 | [], x, v => by simp [kvPut, kvGet_cons]
 | (y, u) :: r, x, v => by
  by_cases h : y = x
  · simp [kvPut, h, kvGet_cons]
  · simp [kvPut, h, kvGet_cons, kvGet_put_same r x v]
theorem kvGet_put_other : ∀ (kv : List (κ × α)) (x y : κ) (v : α), y ≠ x → kvGet (kvPut kv x v) y = kvGet kv y
 | [], x, y, v, h => by simp [kvPut, kvGet_cons, kvGet_nil, Ne.symm h]
 | (z, u) :: r, x, y, v, h => by
  by_cases hz : z = x
  · subst hz; simp [kvPut, kvGet_cons, Ne.symm h]
  · simp [kvPut, hz, kvGet_cons, kvGet_put_other r x y v h]
theorem kvPut_mem : ∀ (kv : List (κ × α)) (x : κ) (v : α) (p : κ × α), p ∈ kvPut kv x v → p = (x, v) ∨ p ∈ kv
 | [], x, v, p, h => by simp [kvPut] at h; exact .inl h
 | (y, u) :: r, x, v, p, h => by
  by_cases hy : y = x
  · simp [kvPut, hy] at h
    rcases h with h | h
    · exact .inl h
    · exact .inr (List.mem_cons_of_mem _ h)
  · simp [kvPut, hy] at h
    rcases h with h | h
    · exact .inr (by rw [h]; exact List.mem_cons_self)
    · rcases kvPut_mem r x v p h with h | h
      · exact .inl h
      · exact .inr (List.mem_cons_of_mem _ h)
theorem kvPut_none : ∀ {kv : List (κ × α)} {x : κ} (v : α), kvGet kv x = none → kvPut kv x v = kv ++ [(x, v)]
 | [], x, v, h => rfl
 | p :: kv, x, v, h => by
  rw [kvGet_cons] at h
  by_cases hp : p.1 = x
  · simp [hp] at h
  · rw [if_neg hp] at h
    obtain ⟨y, u⟩ := p
    simp only [kvPut]
    rw [if_neg hp, kvPut_none v h]
    rfl
theorem kvGet_some : ∀ {kv : List (κ × α)} {x : κ} {u : α}, kvGet kv x = some u → ∃ j : Nat, kv[j]? = some (x, u) ∧ ∀ v, kvPut kv x v = kv.set j (x, v)
 | [], x, u, h => by cases h
 | p :: kv, x, u, h => by
  rw [kvGet_cons] at h
  obtain ⟨y, z⟩ := p
  by_cases hp : y = x
  · subst hp
    simp at h
    subst h
    exact ⟨0, rfl, fun v => by simp [kvPut]⟩
  · rw [if_neg hp] at h
    obtain ⟨j, h1, h2⟩ := kvGet_some h
    exact ⟨j + 1, by simpa using h1, fun v => by simp [kvPut, hp, h2]⟩
theorem kvGet_of_mem : ∀ {kv : List (κ × α)} {p : κ × α}, kv.Pairwise (fun a b => a.1 ≠ b.1) → p ∈ kv → kvGet kv p.1 = some p.2
 | q :: kv, p, hd, hp => by
  rw [List.pairwise_cons] at hd
  rw [kvGet_cons]
  rcases List.mem_cons.1 hp with rfl | hp
  · simp
  · rw [if_neg (hd.1 p hp)]
    exact kvGet_of_mem hd.2 hp
theorem mem_of_kvGet : ∀ {kv : List (κ × α)} {x : κ} {u : α}, kvGet kv x = some u → (x, u) ∈ kv := fun h => by
 obtain ⟨j, h1, _⟩ := kvGet_some h
 exact List.mem_of_getElem? h1
theorem kvPut_keys : ∀ (kv : List (κ × α)) (x : κ) (v : α), kv.Pairwise (fun a b => a.1 ≠ b.1) → (kvPut kv x v).Pairwise (fun a b => a.1 ≠ b.1)
 | [], x, v, _ => by simp [kvPut]
 | (y, u) :: r, x, v, h => by
  rw [List.pairwise_cons] at h
  by_cases hy : y = x
  · subst hy
    simp only [kvPut, if_true]
    exact List.pairwise_cons.2 ⟨h.1, h.2⟩
  · simp only [kvPut]
    rw [if_neg hy]
    refine List.pairwise_cons.2 ⟨fun p hp => ?_, kvPut_keys r x v h.2⟩
    rcases kvPut_mem r x v p hp with rfl | hp
    · exact hy
    · exact h.1 p hp
end
structure KeyEnc {κ : Type} (P : Program) (k : TypeId) (enc : κ → Value) : Prop where
 inj : ∀ x y, enc x = enc y → x = y
 check : ∀ (w : World) (em : Bool) (x : κ), (Instr.checkKey em 10000 k (enc x)).run P w = .ok () w
 find : ∀ (w : World) (x : κ) (es : List MapEntry), (∀ e ∈ es, ∃ y, e.key = enc y) →
  ((Instr.findKey k (enc x) es).run P w = .ok none w ∧ ∀ e ∈ es, e.key ≠ enc x) ∨ ∃ j e, (Instr.findKey k (enc x) es).run P w = .ok (some (j, e.val)) w ∧ es[j]? = some e ∧ e.key = enc x
 stays : ∀ (w : World) (x : κ), (Instr.keyThatStays (enc x) (enc x)).run P w = .ok (enc x) w
theorem keyEnc_plain {κ : Type} {P : Program} {k : TypeId} {d : TypeDesc} {enc : κ → Value} (hk : P.underlying k = some d) (hinj : ∀ x y, enc x = enc y → x = y) (hi : ∀ x, IsKey d (enc x)) : KeyEnc P k enc where
 inj := hinj
 check w em x := run_checkKey hk (hi x) em 9999
 find w x es hes := by
  rcases findNow_spec (hi x) es 0 (fun y hy => by obtain ⟨z, hz⟩ := hes y hy; rw [hz]; exact hi z) with ⟨h1, h2⟩ | ⟨j, e0, h1, h2, h3⟩
  · exact Or.inl ⟨run_findKey hk h1, h2⟩
  · exact Or.inr ⟨j, e0, by simpa using run_findKey hk h1, h2, h3⟩
 stays w x := run_keyThatStays (hi x)
theorem keyEnc_int {P : Program} {k : TypeId} {q : IntKind} (hk : P.underlying k = some (.int q)) : KeyEnc P k (Value.int q) := keyEnc_plain hk (fun x y h => by injection h) (fun _ => rfl)
section
variable {κ : Type} [DecidableEq κ]
def encKV (enc : κ → Value) (p : κ × Value) : Value × Value := (enc p.1, p.2)
def mapKV (w : World) (enc : κ → Value) (b : Nat) (kv : List (κ × Value)) : Prop :=
 ∃ es clock, w.heap[b]? = some (.map es clock) ∧ Stamped es clock ∧ es.toList.map (fun e => (e.key, e.val)) = kv.map (encKV enc)
variable {P : Program} {k t e : TypeId} {w : World} {enc : κ → Value} {b : Nat} {kv : List (κ × Value)}
theorem mapKV_made (w : World) (enc : κ → Value) : mapKV (w.alloc (.map #[] 0)) enc w.heap.size [] :=
 ⟨#[], 0, (MapKept.heap_alloc w _).1, stamped_empty 0, rfl⟩
theorem mapKV.lt (h : mapKV w enc b kv) : b < w.heap.size := by
 obtain ⟨es, clock, hb, _⟩ := h
 exact (Array.getElem?_eq_some_iff.1 hb).1
theorem mapKV.move {w' : World} (h : mapKV w enc b kv) (hb : w'.heap[b]? = w.heap[b]?) : mapKV w' enc b kv := by
 obtain ⟨es, clock, h1, h2⟩ := h
 exact ⟨es, clock, hb.trans h1, h2⟩
theorem mapKV.kept {w' : World} {row : Option Nat} (h : mapKV w enc b kv) (hg : w.grownBy w' row) (hne : some b ≠ row) : mapKV w' enc b kv := h.move (hg.block b h.lt hne)
theorem mapKV.below {w' : World} (h : mapKV w enc b kv) (hb : Below w.heap.size w w') : mapKV w' enc b kv := h.move (hb.block b h.lt)
theorem mapKV.alloc (h : mapKV w enc b kv) (o : Obj) : mapKV (w.alloc o) enc b kv := h.kept (World.grownBy_alloc w o none) (by simp)
theorem mapKV.drew (h : mapKV w enc b kv) : mapKV w.drew enc b kv := h
theorem mapKV.distinct (h : mapKV w enc b kv) : kv.Pairwise (fun a c => a.1 ≠ c.1) := by
 obtain ⟨es, clock, _, hs, hm⟩ := h
 have h3 := hs.2.2
 have e1 : es.toList.map (·.key) = kv.map (fun p => enc p.1) := by
  have := congrArg (List.map Prod.fst) hm
  simpa [encKV, Function.comp_def] using this
 rw [e1, List.Nodup, List.pairwise_map] at h3
 exact h3.imp fun hne he => hne (by rw [he])
theorem mapKV.find (h : mapKV w enc b kv) (K : KeyEnc P k enc) (x : κ) :
 ∃ es clock, w.heap[b]? = some (.map es clock) ∧ Stamped es clock ∧ es.toList.map (fun e => (e.key, e.val)) = kv.map (encKV enc) ∧
  ((kvGet kv x = none ∧ (Instr.findKey k (enc x) es.toList).run P w = .ok none w ∧ ∀ e ∈ es.toList, e.key ≠ enc x) ∨
   ∃ j e u, kvGet kv x = some u ∧ (Instr.findKey k (enc x) es.toList).run P w = .ok (some (j, u)) w ∧ es.toList[j]? = some e ∧ e.key = enc x ∧ e.val = u ∧ (∀ v, kvPut kv x v = kv.set j (x, v))) := by
 have hdis := h.distinct
 obtain ⟨es, clock, hb, hs, hm⟩ := h
 have hkeys : ∀ e ∈ es.toList, ∃ y, e.key = enc y := by
  intro e he
  have : (e.key, e.val) ∈ kv.map (encKV enc) := by rw [← hm]; exact List.mem_map.2 ⟨e, he, rfl⟩
  obtain ⟨p, hp, e1⟩ := List.mem_map.1 this
  simp only [encKV, Prod.mk.injEq] at e1
  exact ⟨p.1, e1.1.symm⟩
 refine ⟨es, clock, hb, hs, hm, ?_⟩
 rcases K.find w x es.toList hkeys with ⟨h1, h2⟩ | ⟨j, e0, h1, h2, h3⟩
 · refine .inl ⟨?_, h1, h2⟩
   cases hg : kvGet kv x with
   | none => rfl
   | some u =>
    have hmem := mem_of_kvGet hg
    have : encKV enc (x, u) ∈ es.toList.map (fun e => (e.key, e.val)) := by rw [hm]; exact List.mem_map.2 ⟨_, hmem, rfl⟩
    obtain ⟨e, he, e1⟩ := List.mem_map.1 this
    simp only [encKV, Prod.mk.injEq] at e1
    exact absurd e1.1 (h2 e he)
 · have hj : (kv.map (encKV enc))[j]? = some (e0.key, e0.val) := by rw [← hm, List.getElem?_map, h2]; rfl
   rw [List.getElem?_map] at hj
   cases hp : kv[j]? with
   | none => rw [hp] at hj; simp at hj
   | some p =>
    rw [hp] at hj
    simp only [Option.map_some, Option.some.injEq, encKV, Prod.mk.injEq] at hj
    obtain ⟨y, u⟩ := p
    have hy : y = x := K.inj _ _ (hj.1.trans h3)
    subst hy
    have hu : u = e0.val := hj.2
    have hget : kvGet kv y = some u := kvGet_of_mem hdis (List.mem_of_getElem? hp)
    obtain ⟨j', hj', hput⟩ := kvGet_some hget
    have ejj : j' = j := by
     rcases Nat.lt_trichotomy j' j with hl | hl | hl
     · have hlt := (List.getElem?_eq_some_iff.1 hp).1
       have := (List.pairwise_iff_getElem.1 hdis) j' j (by omega) hlt hl
       rw [(List.getElem?_eq_some_iff.1 hj').2, (List.getElem?_eq_some_iff.1 hp).2] at this
       exact absurd rfl this
     · exact hl
     · have hlt := (List.getElem?_eq_some_iff.1 hj').1
       have := (List.pairwise_iff_getElem.1 hdis) j j' (by omega) hlt hl
       rw [(List.getElem?_eq_some_iff.1 hj').2, (List.getElem?_eq_some_iff.1 hp).2] at this
       exact absurd rfl this
    subst ejj
    exact .inr ⟨j', e0, u, hget, by rw [h1, hu], h2, h3, hu.symm, hput⟩
theorem mapKV.lookup (c : Bool) (h : mapKV w enc b kv) (K : KeyEnc P k enc) (ht : P.underlying t = some (.map k e)) {z : Value} (hz : (zeroValue e).run P w = .ok z w) (x : κ) :
 (Instr.lookup t (.map (some b)) (enc x) c).run P w = .ok (if c then .tuple #[(kvGet kv x).getD z, .bool (kvGet kv x).isSome] else (kvGet kv x).getD z) w := by
 obtain ⟨es, clock, hb, hs, hm, ⟨hg, h1, _⟩ | ⟨j, e0, u, hg, h1, _⟩⟩ := h.find K x
 · simp [Instr.lookup, run_underlying ht, MapKept.run_getObj_map hb, K.check w _ x, h1, hz, hg, Result.andThen]
 · simp [Instr.lookup, run_underlying ht, MapKept.run_getObj_map hb, K.check w _ x, h1, hg, Result.andThen]
theorem mapKV.update (h : mapKV w enc b kv) (K : KeyEnc P k enc) (ht : P.underlying t = some (.map k e)) (x : κ) (v : Value) :
 ∃ w', (Instr.mapUpdate t (.map (some b)) (enc x) v).run P w = .ok () w' ∧ mapKV w' enc b (kvPut kv x v) ∧ w.grownBy w' (some b) ∧ w'.heap.size = w.heap.size := by
 obtain ⟨es, clock, hb, hs, hm, ⟨hg, h1, h2⟩ | ⟨j, e0, u, hg, h1, h2, h3, h4, hput⟩⟩ := h.find K x
 · have hset := MapKept.heap_set (o' := .map (es.push ⟨enc x, v, clock⟩) (clock + 1)) hb
   refine ⟨setBlock w b (.map (es.push ⟨enc x, v, clock⟩) (clock + 1)), ?_, ⟨_, _, hset.1, stamped_push hs h2, ?_⟩, ⟨rfl, rfl, rfl, by simp [setBlock], fun i _ hi => hset.2 i (fun e1 => hi (by rw [e1]))⟩, by simp [setBlock]⟩
   · simp [Instr.mapUpdate, run_underlying ht, MapKept.run_getObj_map hb, K.check w false x, h1, MapKept.run_setObj_map _ hb, Result.andThen, setBlock]
   · rw [kvPut_none v hg, Array.toList_push, List.map_append, hm, List.map_append]
     rfl
 · have hj : es[j]? = some e0 := by simpa using h2
   have hset := MapKept.heap_set (o' := .map (es.modify j (fun e' => { e' with key := enc x, val := v })) clock) hb
   have hkeyf : ∀ e', es[j]? = some e' → ({ e' with key := enc x, val := v } : MapEntry).key = e'.key := fun e' he' => by rw [hj] at he'; cases he'; exact h3.symm
   refine ⟨setBlock w b (.map (es.modify j (fun e' => { e' with key := enc x, val := v })) clock), ?_, ⟨_, _, hset.1, stamped_modify hs _ _ (fun _ _ => rfl) (fun e' _ he' => hkeyf e' he'), ?_⟩, ⟨rfl, rfl, rfl, by simp [setBlock], fun i _ hi => hset.2 i (fun e1 => hi (by rw [e1]))⟩, by simp [setBlock]⟩
   · simp [Instr.mapUpdate, run_underlying ht, MapKept.run_getObj_map hb, K.check w false x, h1, hj, h3, K.stays w x, MapKept.run_setObj_map _ hb, Result.andThen, setBlock]
   · rw [Array.toList_modify, ChangeMaps.modify_eq_set _ _ _ _ h2, List.map_set, hm, hput, List.map_set]
     rfl
def rangeKV (w : World) (enc : κ → Value) (b r : Nat) (kv left : List (κ × Value)) : Prop :=
 ∃ es clock since seen c0, w.heap[b]? = some (.map es clock) ∧ Stamped es clock ∧ es.toList.map (fun e => (e.key, e.val)) = kv.map (encKV enc) ∧
  w.heap[r]? = some (.mapIter (some b) since seen c0) ∧ (∀ x ∈ es.toList, x.born < since) ∧ since ≤ c0 ∧ since ≤ clock ∧ (leftOf es seen).toList.map (fun e => (e.key, e.val)) = left.map (encKV enc)
theorem rangeKV.move {w' : World} {r : Nat} {left : List (κ × Value)} (h : rangeKV w enc b r kv left) (hb : w'.heap[b]? = w.heap[b]?) (hr : w'.heap[r]? = w.heap[r]?) : rangeKV w' enc b r kv left := by
 obtain ⟨es, clock, since, seen, c0, h1, h2, h4, h5, h6⟩ := h
 exact ⟨es, clock, since, seen, c0, hb.trans h1, h2, h4, hr.trans h5, h6⟩
theorem mapKV.range (h : mapKV w enc b kv) (ht : P.underlying t = some (.map k e)) :
 ∃ w', (Instr.range t (.map (some b))).run P w = .ok (.pointer (some ⟨w.heap.size, 0, none⟩)) w' ∧ rangeKV w' enc b w.heap.size kv kv ∧ w.grownBy w' none ∧ w'.heap.size = w.heap.size + 1 := by
 have hlt := h.lt
 obtain ⟨es, clock, hb, hs, hm⟩ := h
 refine ⟨_, run_range_map w t k e b es clock ht hb, ⟨es, clock, clock, #[], clock, ((MapKept.heap_alloc w _).2 b hlt).trans hb, hs, hm, (MapKept.heap_alloc w _).1, hs.1, Nat.le_refl _, Nat.le_refl _, ?_⟩, World.grownBy_alloc w _ none, by simp⟩
 have : leftOf es #[] = es := by unfold leftOf; exact Array.filter_eq_self.2 (fun x hx => by simp)
 rw [this]; exact hm
theorem rangeKV.next {r : Nat} {left : List (κ × Value)} (h : rangeKV w enc b r kv left) (hne : b ≠ r) (hinj : ∀ x y, enc x = enc y → x = y) (ty : TypeId) :
 (left = [] ∧ (Instr.next (.pointer (some ⟨r, 0, none⟩)) false ty).run P w = .ok (.tuple #[.bool false]) w) ∨
 ∃ p w', p ∈ left ∧ p ∈ kv ∧ (Instr.next (.pointer (some ⟨r, 0, none⟩)) false ty).run P w = .ok (.tuple #[.bool true, enc p.1, p.2]) w' ∧
  rangeKV w' enc b r kv (left.filter fun q => !decide (q.1 = p.1)) ∧ w.grownBy w' (some r) ∧ w'.heap.size = w.heap.size ∧ (Instr.entry (.pointer (some ⟨r, 0, none⟩))).run P w' = .ok (.tuple #[enc p.1, p.2]) w' := by
 obtain ⟨es, clock, since, seen, c0, hb, hs, hm, hr, hold, hsc, hsk, hl⟩ := h
 rcases run_next_at (P := P) w ty r b since c0 seen es clock hr hb hold hsc with ⟨h0, hrun⟩ | ⟨e, he, w1, hal, hrun⟩
 · refine Or.inl ⟨?_, hrun⟩
   have : (leftOf es seen).toList = [] := by simpa using h0
   rw [this] at hl
   simpa using hl.symm
 · obtain ⟨hem, hes⟩ := mem_left he
   have hr1 : w1.heap[r]? = some (.mapIter (some b) since seen c0) := by rcases hal with rfl | rfl <;> exact hr
   have hb1 : w1.heap[b]? = some (.map es clock) := by rcases hal with rfl | rfl <;> exact hb
   have hset := MapKept.heap_set (o' := .mapIter (some b) since (seen.push e.born) clock) hr1
   have hb' : (setBlock w1 r (.mapIter (some b) since (seen.push e.born) clock)).heap[b]? = some (.map es clock) := (hset.2 b hne).trans hb1
   have : (e.key, e.val) ∈ left.map (encKV enc) := by rw [← hl]; exact List.mem_map.2 ⟨e, he, rfl⟩
   obtain ⟨p, hp, hpe⟩ := List.mem_map.1 this
   have : (e.key, e.val) ∈ kv.map (encKV enc) := by rw [← hm]; exact List.mem_map.2 ⟨e, hem, rfl⟩
   obtain ⟨p', hp', hpe'⟩ := List.mem_map.1 this
   have epp : p' = p := by
    rw [← hpe] at hpe'
    simp only [encKV, Prod.mk.injEq] at hpe'
    exact Prod.ext (hinj _ _ hpe'.1) hpe'.2
   subst epp
   simp only [encKV, Prod.mk.injEq] at hpe
   refine Or.inr ⟨p', setBlock w1 r (.mapIter (some b) since (seen.push e.born) clock), hp, hp', by rw [hpe.1, hpe.2]; exact hrun,
    ⟨es, clock, since, seen.push e.born, clock, hb', hs, hm, hset.1, hold, hsk, hsk, ?_⟩, ?_, ?_, by rw [hpe.1, hpe.2]; exact run_entry_at _ r b since seen es clock e hset.1 hb' hem ((stamped_iff es clock).1 hs).2.1⟩
   · haveI : DecidableEq Value := Classical.typeDecidableEq Value
     have e1 : (leftOf es (seen.push e.born)).toList = (leftOf es seen).toList.filter (fun x => !(x.born == e.born)) := by
      unfold leftOf
      rw [Array.toList_filter, Array.toList_filter, List.filter_filter]
      refine List.filter_congr fun x _ => ?_
      rw [contains_push]
      cases seen.contains x.born <;> cases (x.born == e.born) <;> rfl
     have e2 : (leftOf es seen).toList.filter (fun x => !(x.born == e.born)) = (leftOf es seen).toList.filter (fun x => decide (x.key ≠ e.key)) := by
      refine List.filter_congr fun x hx => ?_
      have hxm := (mem_left hx).1
      have hst := (stamped_iff es clock).1 hs
      by_cases hbe : x.born = e.born
      · obtain rfl := born_inj hst.2.1 hxm hem hbe
        simp
      · by_cases hke : x.key = e.key
        · exact absurd (congrArg MapEntry.born (entry_eq_of_key hst.2.2 hxm hem hke)) hbe
        · simp [hbe, hke]
     rw [e1, e2]
     have e3 : ((leftOf es seen).toList.filter (fun x => decide (x.key ≠ e.key))).map (fun e => (e.key, e.val)) = ((leftOf es seen).toList.map (fun e => (e.key, e.val))).filter (fun q => decide (q.1 ≠ e.key)) := by
      rw [List.filter_map]; rfl
     rw [e3, hl, List.filter_map]
     congr 1
     refine List.filter_congr fun q _ => ?_
     simp only [Function.comp, encKV]
     by_cases hq : q.1 = p'.1
     · simp [hq, hpe.1]
     · have : enc q.1 ≠ e.key := fun h => hq (hinj _ _ (h.trans hpe.1.symm))
       simp [hq, this]
   · rcases hal with rfl | rfl <;> exact ⟨rfl, rfl, rfl, by simp [setBlock], fun i _ hi => hset.2 i (fun e1 => hi (by rw [e1]))⟩
   · rcases hal with rfl | rfl <;> simp [setBlock]
variable {ops : Array Oper} {rest : List Oper} {o : Oper} {a : Act} {Q : Exit → Act → World → Prop}
theorem wpList_lookup_kv (hg : o.guard = none) (m x : Operand) (t : TypeId) (hop : o.op = Op.lookup t m x false) (k e : TypeId) (enc : κ → Value) (K : KeyEnc P k enc) (ht : P.underlying t = some (.map k e)) (z : Value) (hz : (zeroValue e).run P w = .ok z w)
 (b : Nat) (kv : List (κ × Value)) (hm : a.eval m = .map (some b)) (h : mapKV w enc b kv) (y : κ) (hx : a.eval x = enc y)
 (u : Value) (hu : (kvGet kv y).getD z = u) (hK : wpList P ops Q rest (a.put o.dst u) w) : wpList P ops Q (o :: rest) a w := by
 refine wpList_plain hg fun K' hK' => ?_
 have hrun := h.lookup false K ht hz y
 rw [hu] at hrun
 unfold Oper.wp
 simp only [Bool.false_eq_true, if_false] at hrun
 simp [execOp, hop, hm, hx, hrun, Result.andThen]
 exact hK' _ _ hK
theorem wpList_mapUpdate_kv (hg : o.guard = none) (m x v : Operand) (t : TypeId) (hop : o.op = Op.mapUpdate t m x v) (k e : TypeId) (enc : κ → Value) (K : KeyEnc P k enc) (ht : P.underlying t = some (.map k e))
 (b : Nat) (kv : List (κ × Value)) (hm : a.eval m = .map (some b)) (h : mapKV w enc b kv) (y : κ) (hx : a.eval x = enc y) (u : Value) (hv : a.eval v = u)
 (hK : ∀ w', mapKV w' enc b (kvPut kv y u) → w.grownBy w' (some b) → w'.heap.size = w.heap.size → wpList P ops Q rest (a.put o.dst undef) w') : wpList P ops Q (o :: rest) a w := by
 refine wpList_plain hg fun K' hK' => ?_
 obtain ⟨w', hrun, r1, r2, r3⟩ := h.update K ht y u
 unfold Oper.wp
 simp [execOp, hop, hm, hx, hv, hrun, Result.andThen]
 exact hK' _ _ (hK w' r1 r2 r3)
theorem wpList_range_kv (hg : o.guard = none) (m : Operand) (t : TypeId) (hop : o.op = Op.range t m) (k e : TypeId) (ht : P.underlying t = some (.map k e)) (enc : κ → Value) (b : Nat) (kv : List (κ × Value))
 (hm : a.eval m = .map (some b)) (h : mapKV w enc b kv)
 (hK : ∀ w', rangeKV w' enc b w.heap.size kv kv → w.grownBy w' none → w'.heap.size = w.heap.size + 1 → wpList P ops Q rest (a.put o.dst (.pointer (some ⟨w.heap.size, 0, none⟩))) w') : wpList P ops Q (o :: rest) a w := by
 refine wpList_plain hg fun K' hK' => ?_
 obtain ⟨w', hrun, r1, r2, r3⟩ := h.range ht
 unfold Oper.wp
 simp [execOp, hop, hm, hrun, Result.andThen]
 exact hK' _ _ (hK w' r1 r2 r3)
theorem wpList_next_kv (hg : o.guard = none) (it : Operand) (hop : o.op = Op.next it false) (k : TypeId) (enc : κ → Value) (hinj : ∀ x y, enc x = enc y → x = y) (b r : Nat) (kv left : List (κ × Value)) (hne : b ≠ r)
 (hit : a.eval it = .pointer (some ⟨r, 0, none⟩)) (h : rangeKV w enc b r kv left)
 (hDone : left = [] → wpList P ops Q rest (a.put o.dst (.tuple #[.bool false])) w)
 (hMore : ∀ (p : κ × Value) (w' : World), p ∈ left → p ∈ kv → rangeKV w' enc b r kv (left.filter fun q => !decide (q.1 = p.1)) → w.grownBy w' (some r) → w'.heap.size = w.heap.size →
  (Instr.entry (.pointer (some ⟨r, 0, none⟩))).run P w' = .ok (.tuple #[enc p.1, p.2]) w' → wpList P ops Q rest (a.put o.dst (.tuple #[.bool true, enc p.1, p.2])) w') : wpList P ops Q (o :: rest) a w := by
 refine wpList_plain hg fun K' hK' => ?_
 unfold Oper.wp
 rcases rangeKV.next (P := P) h hne hinj o.type with ⟨hl, hrun⟩ | ⟨p, w', hp, hpk, hrun, r1, r2, r3, r4⟩
 · simp [execOp, hop, hit, hrun, Result.andThen]
   exact hK' _ _ (hDone hl)
 · simp [execOp, hop, hit, hrun, Result.andThen]
   exact hK' _ _ (hMore p w' hp hpk r1 r2 r3 r4)
end
theorem len_filter_lt {κ α : Type} [DecidableEq κ] {l : List (κ × α)} {p : κ × α} (h : p ∈ l) : (l.filter fun q => !decide (q.1 = p.1)).length < l.length := by
 induction l with
 | nil => cases h
 | cons q l ih =>
  rw [List.filter_cons]
  by_cases hq : q.1 = p.1
  · simp [hq]
    have := List.length_filter_le (fun q => !decide (q.1 = p.1)) l
    omega
  · simp only [hq, decide_false, Bool.not_false, if_true, List.length_cons]
    have hp : p ∈ l := by
     rcases List.mem_cons.1 h with rfl | h
     · exact absurd rfl hq
     · exact h
    have := ih hp
    omega
theorem intEnc_inj (x y : Int) (h : Value.int .i64 x = Value.int .i64 y) : x = y := by injection h
end Go.Proofs.Ytibahnmljafkdaa.P
