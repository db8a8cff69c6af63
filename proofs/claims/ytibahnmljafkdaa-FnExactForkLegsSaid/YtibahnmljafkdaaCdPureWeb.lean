/- What the reference tells of webs, and that it is what the program tells: plain mathematics. -/
import Derived.Test.YtibahnmljafkdaaCdPureB
import Derived.Test.YtibahnmljafkdaaCdIsWeb
import Derived.Test.YtibahnmljafkdaaCdPx4
namespace Go.Proofs.Ytibahnmljafkdaa.P
open Go.RowKit Go.Proofs.YtibahnmljafkdaaW.PrintWords Go.Proofs.YtibahnmljafkdaaW.PrintLast
set_option linter.unusedVariables false
set_option linter.unusedSimpArgs false
def endsAt (l : List (Int × Int)) (e : Int) : List Int := (l.filter fun q => decide (q.1 = e)).map (·.2)
theorem endsOf_get (e : Int) : ∀ (l : List (Int × Int)) (m : List (Int × List Int)), kvGet (endsOf l m) e = if endsAt l e = [] then kvGet m e else some ((kvGet m e).getD [] ++ endsAt l e)
 | [], m => by simp [endsOf, endsAt]
 | q :: l, m => by
  have e1 : endsOf (q :: l) m = endsOf l (endsStep m q) := rfl
  rw [e1, endsOf_get e l]
  by_cases hq : q.1 = e
  · have e2 : endsAt (q :: l) e = q.2 :: endsAt l e := by simp [endsAt, hq]
    have e3 : kvGet (endsStep m q) e = some ((kvGet m e).getD [] ++ [q.2]) := by
     unfold endsStep; rw [hq]; exact kvGet_put_same _ _ _
    rw [e2, e3]
    by_cases h0 : endsAt l e = []
    · simp [h0]
    · simp [h0]
  · have e2 : endsAt (q :: l) e = endsAt l e := by simp [endsAt, hq]
    have e3 : kvGet (endsStep m q) e = kvGet m e := by
     unfold endsStep; exact kvGet_put_other _ _ _ _ (Ne.symm hq)
    rw [e2, e3]
theorem webM_get (legs : List Int) (forks : List (List Int)) (e : Int) : kvGet (webM legs forks) e = if endsAt (endsL legs forks) e = [] then none else some (endsAt (endsL legs forks) e) := by
 unfold webM; rw [endsOf_get]; simp [kvGet_nil]
theorem zipIdx_fst (l : List Int) : ∀ k, (l.zipIdx k).map (fun p => p.1) = l := by
 induction l with
 | nil => intro k; rfl
 | cons x l ih => intro k; simp [List.zipIdx_cons, ih]
def allE (legs : List Int) (forks : List (List Int)) : List Int := legs ++ forks.flatten
theorem endsL_fst (legs : List Int) (forks : List (List Int)) : (endsL legs forks).map (·.1) = allE legs forks := by
 unfold endsL allE legsL forksL
 rw [List.map_append, List.map_map]
 have h1 : List.map ((fun x : Int × Int => x.1) ∘ fun p : Int × Nat => (p.1, (p.2 : Int))) legs.zipIdx = legs := zipIdx_fst legs 0
 rw [h1]
 congr 1
 suffices H : ∀ (n k : Nat) (forks : List (List Int)), List.map (fun x : Int × Int => x.1) ((forks.zipIdx k).flatMap fun p => p.1.map fun e => (e, ((n + p.2 : Nat) : Int))) = forks.flatten from H _ 0 forks
 intro n k forks
 induction forks generalizing k with
 | nil => rfl
 | cons f l ih =>
  have hf : List.map ((fun x : Int × Int => x.1) ∘ fun e : Int => (e, ((n + k : Nat) : Int))) f = f := by
   have : ((fun x : Int × Int => x.1) ∘ fun e : Int => (e, ((n + k : Nat) : Int))) = id := rfl
   rw [this, List.map_id]
  rw [List.zipIdx_cons, List.flatMap_cons, List.map_append, ih, List.map_map, hf, List.flatten_cons]
theorem endsAt_len (e : Int) : ∀ (l : List (Int × Int)), (endsAt l e).length = (l.map (·.1)).count e
 | [] => rfl
 | q :: l => by
  by_cases hq : q.1 = e
  · have e2 : endsAt (q :: l) e = q.2 :: endsAt l e := by simp [endsAt, hq]
    rw [e2, List.length_cons, endsAt_len e l, List.map_cons, List.count_cons]; simp [hq]
  · have e2 : endsAt (q :: l) e = endsAt l e := by simp [endsAt, hq]
    rw [e2, endsAt_len e l, List.map_cons, List.count_cons]; simp [hq]
theorem endsAt_mem {l : List (Int × Int)} {e x : Int} : x ∈ endsAt l e ↔ (e, x) ∈ l := by
 unfold endsAt
 rw [List.mem_map]
 constructor
 · rintro ⟨⟨a, b⟩, h1, rfl⟩
   obtain ⟨h2, h3⟩ := List.mem_filter.1 h1
   simp at h3
   subst h3
   exact h2
 · intro h
   exact ⟨(e, x), List.mem_filter.2 ⟨h, by simp⟩, rfl⟩
theorem webM_mem {legs : List Int} {forks : List (List Int)} {p : Int × List Int} : p ∈ webM legs forks ↔ p.2 = endsAt (endsL legs forks) p.1 ∧ p.2 ≠ [] := by
 constructor
 · intro h
   have h1 := kvGet_of_mem (webM_distinct legs forks) h
   rw [webM_get] at h1
   split at h1
   · cases h1
   · rename_i h2
     obtain h3 := Option.some.inj h1
     exact ⟨h3.symm, by rw [← h3]; exact h2⟩
 · rintro ⟨h1, h2⟩
   refine mem_of_kvGet (?_ : kvGet (webM legs forks) p.1 = some p.2)
   rw [webM_get, ← h1, if_neg h2]
def okE (legs : List Int) (forks : List (List Int)) (x : Int) : Bool := decide ((allE legs forks).count x = 2) && (decide (0 ≤ x) && decide (x ≤ 1000))
theorem all_ok (legs : List Int) (forks : List (List Int)) : (webM legs forks).all okEnd = (allE legs forks).all (okE legs forks) := by
 rw [Bool.eq_iff_iff, List.all_eq_true, List.all_eq_true]
 constructor
 · intro h x hx
   have hc : 0 < (allE legs forks).count x := List.count_pos_iff.2 hx
   rw [← endsL_fst, ← endsAt_len] at hc
   have h1 := h (x, endsAt (endsL legs forks) x) (webM_mem.2 ⟨rfl, by intro h0; simp only at h0; rw [h0] at hc; simp at hc⟩)
   simp only [okEnd, Bool.and_eq_true, decide_eq_true_eq] at h1
   simp only [okE, Bool.and_eq_true, decide_eq_true_eq]
   rw [endsAt_len, endsL_fst] at h1
   exact ⟨h1.2, h1.1.1, h1.1.2⟩
 · intro h p hp
   obtain ⟨h1, h2⟩ := webM_mem.1 hp
   have hl := endsAt_len p.1 (endsL legs forks)
   rw [← h1, endsL_fst] at hl
   have hpos : 0 < p.2.length := List.length_pos_iff.2 h2
   have h3 := h p.1 (List.count_pos_iff.1 (by omega))
   simp only [okE, Bool.and_eq_true, decide_eq_true_eq] at h3
   simp only [okEnd, Bool.and_eq_true, decide_eq_true_eq]
   exact ⟨⟨h3.2.1, h3.2.2⟩, by omega⟩
def nodeE (legs : List Int) (forks : List (List Int)) (i : Nat) : List Int := if i < legs.length then [rd legs (i : Int)] else rdR forks ((i - legs.length : Nat) : Int)
theorem endsL_mem {legs : List Int} {forks : List (List Int)} {e : Int} {i : Nat} : (e, (i : Int)) ∈ endsL legs forks ↔ i < legs.length + forks.length ∧ e ∈ nodeE legs forks i := by
 unfold endsL
 rw [List.mem_append]
 constructor
 · rintro (h | h)
   · obtain ⟨p, hp, hq⟩ := List.mem_map.1 h
     obtain ⟨hlt, hv⟩ := List.getElem?_eq_some_iff.1 (List.mem_zipIdx_iff_getElem?.1 hp)
     have hi : p.2 = i := by have := congrArg Prod.snd hq; simp at this; omega
     have he : p.1 = e := congrArg Prod.fst hq
     rw [hi] at hlt
     refine ⟨by omega, ?_⟩
     have hv2 : legs[i]'hlt = e := by rw [← he, ← hv]; simp only [hi]
     simp [nodeE, hlt, rd, List.getD_eq_getElem?_getD, hv2]
   · obtain ⟨p, hp, hq⟩ := List.mem_flatMap.1 h
     obtain ⟨hlt, hv⟩ := List.getElem?_eq_some_iff.1 (List.mem_zipIdx_iff_getElem?.1 hp)
     obtain ⟨e', he', hq⟩ := List.mem_map.1 hq
     have hi : legs.length + p.2 = i := by have := congrArg Prod.snd hq; simp at this; omega
     have he : e' = e := congrArg Prod.fst hq
     subst he
     refine ⟨by omega, ?_⟩
     have hn : ¬ i < legs.length := by omega
     have e1 : i - legs.length = p.2 := by omega
     have hv2 : rdR forks ((p.2 : Nat) : Int) = p.1 := by rw [← hv]; simp [rdR, List.getD_eq_getElem?_getD, List.getElem?_eq_getElem hlt]
     rw [nodeE, if_neg hn, e1, hv2]
     exact he'
 · rintro ⟨hlt, he⟩
   by_cases h1 : i < legs.length
   · left
     rw [nodeE, if_pos h1, List.mem_singleton] at he
     refine List.mem_map.2 ⟨(e, i), List.mem_zipIdx_iff_getElem?.2 ?_, rfl⟩
     rw [he]
     simp [rd, List.getD_eq_getElem?_getD, List.getElem?_eq_getElem h1]
   · right
     rw [nodeE, if_neg h1] at he
     have h2 : i - legs.length < forks.length := by omega
     refine List.mem_flatMap.2 ⟨(rdR forks ((i - legs.length : Nat) : Int), i - legs.length), List.mem_zipIdx_iff_getElem?.2 ?_, List.mem_map.2 ⟨e, he, ?_⟩⟩
     · simp [rdR, List.getD_eq_getElem?_getD, List.getElem?_eq_getElem h2]
     · simp only [Prod.mk.injEq, true_and]; omega
def joinB (a b : List Int) : Bool := a.any fun x => decide (x ∈ b)
theorem joinB_iff {a b : List Int} : joinB a b = true ↔ ∃ e, e ∈ a ∧ e ∈ b := by simp [joinB]
theorem two_of {l : List Int} (h : l.length = 2) : ∃ a b, l = [a, b] := by
 match l, h with
 | [a, b], _ => exact ⟨a, b, rfl⟩
theorem link_of_joined {legs : List Int} {forks : List (List Int)} (hv : ∀ p ∈ webM legs forks, p.2.length = 2) {i j : Nat} (hi : i < legs.length + forks.length) (hj : j < legs.length + forks.length) (hij : i ≠ j) (h : joinB (nodeE legs forks i) (nodeE legs forks j) = true) : Link (edgesM (webM legs forks)) i j := by
 obtain ⟨e, h1, h2⟩ := joinB_iff.1 h
 have m1 := endsAt_mem.2 (endsL_mem.2 ⟨hi, h1⟩)
 have m2 := endsAt_mem.2 (endsL_mem.2 ⟨hj, h2⟩)
 have hm : (e, endsAt (endsL legs forks) e) ∈ webM legs forks := webM_mem.2 ⟨rfl, List.ne_nil_of_mem m1⟩
 have h2 := hv _ hm
 simp only at h2
 obtain ⟨a, b, hab⟩ := two_of h2
 rw [hab] at m1 m2 hm
 have hE : edgeM (e, [a, b]) ∈ edgesM (webM legs forks) := List.mem_map.2 ⟨_, hm, rfl⟩
 simp only [List.mem_cons, List.not_mem_nil, or_false] at m1 m2
 simp only [edgeM, List.getD_cons_zero, List.getD_cons_succ] at hE
 rcases m1 with m1 | m1
 · rcases m2 with m2 | m2
   · omega
   · left; rw [← m1, ← m2] at hE; exact hE
 · rcases m2 with m2 | m2
   · right; rw [← m1, ← m2] at hE; exact hE
   · omega
theorem joined_of_edge {legs : List Int} {forks : List (List Int)} (hv : ∀ p ∈ webM legs forks, p.2.length = 2) {i j : Nat} (h : (i, j) ∈ edgesM (webM legs forks)) : joinB (nodeE legs forks i) (nodeE legs forks j) = true := by
 obtain ⟨⟨e, l⟩, hp, hq⟩ := List.mem_map.1 h
 have hlt := webM_lt legs forks _ hp
 obtain ⟨h1, _⟩ := webM_mem.1 hp
 obtain ⟨a, b, hab⟩ := two_of (hv _ hp)
 simp only at hab h1 hlt
 subst hab
 simp only [edgeM, List.getD_cons_zero, List.getD_cons_succ, Prod.mk.injEq] at hq
 have ha := hlt a (by simp)
 have hb := hlt b (by simp)
 have ma : ((i : Nat) : Int) ∈ endsAt (endsL legs forks) e := by rw [← h1]; simp; omega
 have mb : ((j : Nat) : Int) ∈ endsAt (endsL legs forks) e := by rw [← h1]; simp; omega
 exact joinB_iff.2 ⟨e, (endsL_mem.1 (endsAt_mem.1 ma)).2, (endsL_mem.1 (endsAt_mem.1 mb)).2⟩
theorem joinB_symm (a b : List Int) : joinB a b = joinB b a := by
 rw [Bool.eq_iff_iff, joinB_iff, joinB_iff]
 constructor <;> (rintro ⟨e, h1, h2⟩; exact ⟨e, h2, h1⟩)
end Go.Proofs.Ytibahnmljafkdaa.P
