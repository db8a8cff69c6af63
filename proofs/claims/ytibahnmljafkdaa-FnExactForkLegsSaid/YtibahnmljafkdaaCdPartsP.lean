/- Plain mathematics of parts: labels that are lowered along edges come to the least member of each part. -/
import Derived.Test.YtibahnmljafkdaaCdBase
namespace Go.Proofs.Ytibahnmljafkdaa.P
open Go.Proofs.YtibahnmljafkdaaW.PrintWords
set_option linter.unusedVariables false
set_option linter.unusedSimpArgs false
def Link (E : List (Nat × Nat)) (a b : Nat) : Prop := (a, b) ∈ E ∨ (b, a) ∈ E
def IsPath (E : List (Nat × Nat)) : Nat → List Nat → Nat → Prop
  | i, [], j => i = j
  | i, x :: l, j => Link E i x ∧ IsPath E x l j
def Conn (E : List (Nat × Nat)) (i j : Nat) : Prop := ∃ l, IsPath E i l j
theorem Link.symm {E : List (Nat × Nat)} {a b : Nat} (h : Link E a b) : Link E b a := Or.symm h
theorem Conn.refl {E : List (Nat × Nat)} (i : Nat) : Conn E i i := ⟨[], rfl⟩
theorem Conn.step {E : List (Nat × Nat)} {a b c : Nat} (h : Link E a b) (k : Conn E b c) : Conn E a c := by obtain ⟨l, hl⟩ := k; exact ⟨b :: l, h, hl⟩
theorem IsPath.trans {E : List (Nat × Nat)} {j k : Nat} : ∀ {l m : List Nat} {i : Nat}, IsPath E i l j → IsPath E j m k → IsPath E i (l ++ m) k
  | [], m, i, h, g => by cases h; exact g
  | x :: l, m, i, h, g => ⟨h.1, IsPath.trans h.2 g⟩
theorem Conn.trans {E : List (Nat × Nat)} {a b c : Nat} (h : Conn E a b) (k : Conn E b c) : Conn E a c := by
  obtain ⟨l, hl⟩ := h; obtain ⟨m, hm⟩ := k; exact ⟨l ++ m, hl.trans hm⟩
theorem IsPath.suffix {E : List (Nat × Nat)} {i j : Nat} : ∀ {l : List Nat} {x : Nat}, IsPath E x l j → i ∈ x :: l → ∃ t, IsPath E i t j ∧ (i :: t).Sublist (x :: l)
  | [], x, h, hi => by
    obtain rfl : i = x := by simpa using hi
    exact ⟨[], h, List.Sublist.refl _⟩
  | y :: l, x, h, hi => by
    rcases List.mem_cons.1 hi with rfl | hi
    · exact ⟨y :: l, h, List.Sublist.refl _⟩
    · obtain ⟨t, h1, h2⟩ := IsPath.suffix h.2 hi
      exact ⟨t, h1, h2.trans (List.sublist_cons_self _ _)⟩
theorem IsPath.simple {E : List (Nat × Nat)} {j : Nat} : ∀ {l : List Nat} {i : Nat}, IsPath E i l j → ∃ l', IsPath E i l' j ∧ (i :: l').Nodup ∧ ∀ x ∈ l', x ∈ l
  | [], i, h => ⟨[], h, by simp, by simp⟩
  | x :: l, i, h => by
    obtain ⟨l', h1, h2, h3⟩ := IsPath.simple h.2
    by_cases hi : i ∈ x :: l'
    · obtain ⟨t, h4, h5⟩ := IsPath.suffix h1 hi
      refine ⟨t, h4, h2.sublist h5, fun y hy => ?_⟩
      have : y ∈ x :: l' := h5.subset (List.mem_cons_of_mem _ hy)
      rcases List.mem_cons.1 this with rfl | hy'
      · exact List.mem_cons_self
      · exact List.mem_cons_of_mem _ (h3 y hy')
    · refine ⟨x :: l', ⟨h.1, h1⟩, List.nodup_cons.2 ⟨hi, h2⟩, fun y hy => ?_⟩
      rcases List.mem_cons.1 hy with rfl | hy'
      · exact List.mem_cons_self
      · exact List.mem_cons_of_mem _ (h3 y hy')
theorem nodup_len : ∀ (n : Nat) (l : List Nat), l.Nodup → (∀ x ∈ l, x < n) → l.length ≤ n
  | 0, l, _, h => by
    cases l with
    | nil => simp
    | cons x l => exact absurd (h x List.mem_cons_self) (by omega)
  | n + 1, l, hn, h => by
    have h1 : (l.filter (fun x => !(x == n))).length ≤ n := nodup_len n _ (hn.sublist List.filter_sublist) (fun x hx => by
      obtain ⟨hx1, hx2⟩ := List.mem_filter.1 hx
      have := h x hx1
      simp at hx2
      omega)
    have h2 : l.length ≤ (l.filter (fun x => !(x == n))).length + 1 := by
      clear h h1
      induction l with
      | nil => simp
      | cons y l ih =>
        rw [List.nodup_cons] at hn
        have ih := ih hn.2
        by_cases hy : y = n
        · subst hy
          have : l.filter (fun x => !(x == y)) = l := List.filter_eq_self.2 (fun x hx => by simp; intro e; subst e; exact hn.1 hx)
          rw [List.filter_cons, this]; simp
        · rw [List.filter_cons]; simp [hy]; omega
    omega
def EdgesOk (n : Nat) (E : List (Nat × Nat)) : Prop := ∀ p ∈ E, p.1 < n ∧ p.2 < n
theorem Link.lt {n : Nat} {E : List (Nat × Nat)} (hE : EdgesOk n E) {a b : Nat} (h : Link E a b) : a < n ∧ b < n := by
  rcases h with h | h
  · exact hE _ h
  · exact ⟨(hE _ h).2, (hE _ h).1⟩
theorem IsPath.lt {n : Nat} {E : List (Nat × Nat)} (hE : EdgesOk n E) {j : Nat} : ∀ {l : List Nat} {i : Nat}, IsPath E i l j → ∀ x ∈ l, x < n
  | [], i, h, x, hx => by cases hx
  | y :: l, i, h, x, hx => by
    rcases List.mem_cons.1 hx with rfl | hx
    · exact (h.1.lt hE).2
    · exact IsPath.lt hE h.2 x hx
structure IsParts (n : Nat) (E : List (Nat × Nat)) (out : List Int) : Prop where
  len : out.length = n
  own : ∀ i, i < n → ∃ j : Nat, rd out (i : Int) = j ∧ Conn E i j ∧ j ≤ i
  same : ∀ a b, Link E a b → rd out (a : Int) = rd out (b : Int)
theorem IsParts.conn {n : Nat} {E : List (Nat × Nat)} {out : List Int} (h : IsParts n E out) {i j : Nat} (k : Conn E i j) : rd out (i : Int) = rd out (j : Int) := by
  obtain ⟨l, hl⟩ := k
  induction l generalizing i with
  | nil => cases hl; rfl
  | cons x l ih => exact (h.same i x hl.1).trans (ih hl.2)
theorem Conn.lt {n : Nat} {E : List (Nat × Nat)} (hE : EdgesOk n E) {i j : Nat} (k : Conn E i j) (hi : i < n) : j < n := by
  obtain ⟨l, hl⟩ := k
  induction l generalizing i with
  | nil => cases hl; exact hi
  | cons x l ih => exact ih ((hl.1.lt hE).2) hl.2
theorem rd_ext {a b : List Int} (hl : a.length = b.length) (h : ∀ i : Nat, i < a.length → rd a (i : Int) = rd b (i : Int)) : a = b := by
  refine List.ext_getElem hl fun i h1 h2 => ?_
  have := h i h1
  simpa [rd, List.getD_eq_getElem?_getD, List.getElem?_eq_getElem h1, List.getElem?_eq_getElem h2] using this
theorem IsParts.unique {n : Nat} {E : List (Nat × Nat)} (hE : EdgesOk n E) {a b : List Int} (ha : IsParts n E a) (hb : IsParts n E b) : a = b := by
  refine rd_ext (ha.len.trans hb.len.symm) fun i hi => ?_
  rw [ha.len] at hi
  have key : ∀ {a b : List Int}, IsParts n E a → IsParts n E b → rd b (i : Int) ≤ rd a (i : Int) := fun {a b} ha hb => by
    obtain ⟨j, h1, h2, _⟩ := ha.own i hi
    obtain ⟨j', h3, _, h5⟩ := hb.own j (h2.lt hE hi)
    rw [hb.conn h2, h3, h1]
    omega
  have h1 := key ha hb
  have h2 := key hb ha
  omega
structure Lab (n : Nat) (E : List (Nat × Nat)) (p : Nat) (out : List Int) : Prop where
  len : out.length = n
  own : ∀ i, i < n → ∃ j : Nat, rd out (i : Int) = j ∧ Conn E i j ∧ j ≤ i
  low : ∀ i l j, i < n → IsPath E i l j → l.length ≤ p → rd out (i : Int) ≤ j
structure Mid (n : Nat) (E : List (Nat × Nat)) (old : List Int) (met : Nat × Nat → Prop) (cur : List Int) : Prop where
  len : cur.length = n
  own : ∀ i, i < n → ∃ j : Nat, rd cur (i : Int) = j ∧ Conn E i j ∧ j ≤ i
  le : ∀ i, i < n → rd cur (i : Int) ≤ rd old (i : Int)
  met_ : ∀ p, met p → rd cur (p.1 : Int) ≤ rd old (p.2 : Int) ∧ rd cur (p.2 : Int) ≤ rd old (p.1 : Int)
theorem rd_set (l : List Int) (a : Nat) (x : Int) (i : Nat) (ha : a < l.length) : rd (l.set a x) (i : Int) = if i = a then x else rd l (i : Int) := by
  simp only [rd, Int.toNat_natCast, List.getD_eq_getElem?_getD]
  by_cases h : i = a
  · subst h; simp [ha]
  · rw [if_neg h, List.getElem?_set_ne (Ne.symm h)]
theorem Mid.start {n : Nat} {E : List (Nat × Nat)} {p : Nat} {old : List Int} (h : Lab n E p old) : Mid n E old (fun _ => False) old := ⟨h.len, h.own, fun _ _ => Int.le_refl _, fun _ h => h.elim⟩
theorem Mid.step {n : Nat} {E : List (Nat × Nat)} {old cur : List Int} {met met' : Nat × Nat → Prop} (h : Mid n E old met cur) (hE : EdgesOk n E) {a b : Nat} (hab : (a, b) ∈ E) (hmet : ∀ p, met' p → met p ∨ p = (a, b)) :
    Mid n E old met' ((cur.set a (min (rd cur (a : Int)) (rd cur (b : Int)))).set b (min (rd cur (a : Int)) (rd cur (b : Int)))) := by
  have hlt := hE _ hab
  simp only at hlt
  have hr : ∀ i : Nat, rd ((cur.set a (min (rd cur (a : Int)) (rd cur (b : Int)))).set b (min (rd cur (a : Int)) (rd cur (b : Int)))) (i : Int) = if i = a ∨ i = b then min (rd cur (a : Int)) (rd cur (b : Int)) else rd cur (i : Int) := by
    intro i
    rw [rd_set _ _ _ _ (by simp [h.len]; exact hlt.2), rd_set _ _ _ _ (by rw [h.len]; exact hlt.1)]
    by_cases h1 : i = b <;> by_cases h2 : i = a <;> simp [h1, h2]
  have hle : ∀ i, i < n → rd ((cur.set a (min (rd cur (a : Int)) (rd cur (b : Int)))).set b (min (rd cur (a : Int)) (rd cur (b : Int)))) (i : Int) ≤ rd cur (i : Int) := by
    intro i hi
    rw [hr]
    split
    · rename_i h1
      rcases h1 with rfl | rfl <;> omega
    · exact Int.le_refl _
  obtain ⟨ja, ea, ca, la⟩ := h.own a hlt.1
  obtain ⟨jb, eb, cb, lb⟩ := h.own b hlt.2
  have hla : Link E a b := .inl hab
  refine ⟨by simp [h.len], fun i hi => ?_, fun i hi => Int.le_trans (hle i hi) (h.le i hi), fun p hp => ?_⟩
  · rw [hr]
    by_cases h1 : i = a ∨ i = b
    · rw [if_pos h1, ea, eb]
      have hc : Conn E i a ∧ Conn E i b := by
        rcases h1 with rfl | rfl
        · exact ⟨Conn.refl _, Conn.step hla (Conn.refl _)⟩
        · exact ⟨Conn.step hla.symm (Conn.refl _), Conn.refl _⟩
      rcases Nat.le_total ja jb with hj | hj
      · refine ⟨ja, by omega, hc.1.trans ca, ?_⟩
        rcases h1 with rfl | rfl <;> omega
      · refine ⟨jb, by omega, hc.2.trans cb, ?_⟩
        rcases h1 with rfl | rfl <;> omega
    · rw [if_neg h1]; exact h.own i hi
  · rcases hmet p hp with hp | rfl
    · have := h.met_ p hp
      by_cases h1 : p.1 < n
      · by_cases h2 : p.2 < n
        · exact ⟨Int.le_trans (hle _ h1) this.1, Int.le_trans (hle _ h2) this.2⟩
        · have e2 : ¬ (p.2 = a ∨ p.2 = b) := by omega
          exact ⟨Int.le_trans (hle _ h1) this.1, by rw [hr, if_neg e2]; exact this.2⟩
      · have e1 : ¬ (p.1 = a ∨ p.1 = b) := by omega
        by_cases h2 : p.2 < n
        · exact ⟨by rw [hr, if_neg e1]; exact this.1, Int.le_trans (hle _ h2) this.2⟩
        · have e2 : ¬ (p.2 = a ∨ p.2 = b) := by omega
          exact ⟨by rw [hr, if_neg e1]; exact this.1, by rw [hr, if_neg e2]; exact this.2⟩
    · have h1 := h.le a hlt.1
      have h2 := h.le b hlt.2
      simp only
      rw [hr, hr, if_pos (.inl rfl), if_pos (.inr rfl)]
      omega
theorem Lab.pass {n p : Nat} {E : List (Nat × Nat)} {old new : List Int} (h : Lab n E p old) (hE : EdgesOk n E) {met : Nat × Nat → Prop} (hm : Mid n E old met new) (hall : ∀ q ∈ E, met q) : Lab n E (p + 1) new := by
  refine ⟨hm.len, hm.own, fun i l j hi hl hp => ?_⟩
  cases l with
  | nil => exact Int.le_trans (hm.le i hi) (h.low i [] j hi hl (by simp))
  | cons x l =>
    have hx := (hl.1.lt hE).2
    have h1 := h.low x l j hx hl.2 (by simp at hp; omega)
    rcases hl.1 with h2 | h2
    · exact Int.le_trans (hm.met_ _ (hall _ h2)).1 h1
    · exact Int.le_trans (hm.met_ _ (hall _ h2)).2 h1
theorem Lab.done {n p : Nat} {E : List (Nat × Nat)} {out : List Int} (h : Lab n E p out) (hE : EdgesOk n E) (hp : n ≤ p + 1) : IsParts n E out := by
  refine ⟨h.len, h.own, fun a b hab => ?_⟩
  have key : ∀ a b, Link E a b → rd out (a : Int) ≤ rd out (b : Int) := fun a b hab => by
    have hlt := hab.lt hE
    obtain ⟨j, h1, h2, _⟩ := h.own b hlt.2
    obtain ⟨l, hl⟩ := Conn.step hab h2
    obtain ⟨l', h3, h4, _⟩ := hl.simple
    have h5 := nodup_len n (a :: l') h4 (fun x hx => by
      rcases List.mem_cons.1 hx with rfl | hx
      · exact hlt.1
      · exact h3.lt hE x hx)
    rw [h1]
    exact h.low a l' j hlt.1 h3 (by simp at h5; omega)
  have h1 := key a b hab
  have h2 := key b a hab.symm
  omega
def ups (n : Nat) : List Int := (List.range n).map fun (i : Nat) => (i : Int)
theorem rd_ups (n i : Nat) (h : i < n) : rd (ups n) (i : Int) = i := by simp [rd, ups, List.getD_eq_getElem?_getD, h]
theorem Lab.start (n : Nat) (E : List (Nat × Nat)) : Lab n E 0 (ups n) :=
  ⟨by simp [ups], fun i hi => ⟨i, rd_ups n i hi, Conn.refl _, Nat.le_refl _⟩, fun i l j hi hl hp => by
    cases l with
    | nil => cases hl; rw [rd_ups n i hi]; exact Int.le_refl _
    | cons x l => simp at hp⟩
def relax (cur : List Int) (p : Nat × Nat) : List Int := (cur.set p.1 (min (rd cur (p.1 : Int)) (rd cur (p.2 : Int)))).set p.2 (min (rd cur (p.1 : Int)) (rd cur (p.2 : Int)))
def passes (E : List (Nat × Nat)) : Nat → List Int → List Int
  | 0, cur => cur
  | k + 1, cur => passes E k (E.foldl relax cur)
def partsC (n : Nat) (E : List (Nat × Nat)) : List Int := passes E n (ups n)
theorem mid_fold {n : Nat} {E : List (Nat × Nat)} (hE : EdgesOk n E) (old : List Int) : ∀ (F : List (Nat × Nat)) (cur : List Int) (met : Nat × Nat → Prop), (∀ q ∈ F, q ∈ E) → Mid n E old met cur → Mid n E old (fun q => met q ∨ q ∈ F) (F.foldl relax cur)
  | [], cur, met, _, h => ⟨h.len, h.own, h.le, fun p hp => h.met_ p (by simpa using hp)⟩
  | q :: F, cur, met, hF, h => by
    obtain ⟨a, b⟩ := q
    have h1 := h.step hE (met' := fun p => met p ∨ p = (a, b)) (hF _ List.mem_cons_self) (fun p hp => hp)
    have h2 := mid_fold hE old F _ _ (fun q hq => hF q (List.mem_cons_of_mem _ hq)) h1
    exact ⟨h2.len, h2.own, h2.le, fun p hp => h2.met_ p (by rcases hp with hp | hp
                                                            · exact .inl (.inl hp)
                                                            · rcases List.mem_cons.1 hp with rfl | hp
                                                              · exact .inl (.inr rfl)
                                                              · exact .inr hp)⟩
theorem lab_passes {n : Nat} {E : List (Nat × Nat)} (hE : EdgesOk n E) : ∀ (k p : Nat) (cur : List Int), Lab n E p cur → Lab n E (p + k) (passes E k cur)
  | 0, p, cur, h => h
  | k + 1, p, cur, h => by
    have h1 := h.pass hE (mid_fold hE cur E cur _ (fun _ h => h) (Mid.start h)) (fun q hq => .inr hq)
    have h2 := lab_passes hE k (p + 1) _ h1
    rw [show p + (k + 1) = p + 1 + k from by omega]
    exact h2
theorem partsC_is {n : Nat} {E : List (Nat × Nat)} (hE : EdgesOk n E) : IsParts n E (partsC n E) := by
  have h := lab_passes hE n 0 _ (Lab.start n E)
  exact h.done hE (by omega)
end Go.Proofs.Ytibahnmljafkdaa.P
