/- The number of parts that the reference counts is the number that the program counts: plain mathematics. -/
import Derived.Test.YtibahnmljafkdaaCbPureParts
import Derived.Test.YtibahnmljafkdaaCbPartsOfWeb
import Derived.Test.YtibahnmljafkdaaCbPx4
namespace Go.Proofs.Ytibahnmljafkdaa.P
open Go.RowKit Go.Proofs.YtibahnmljafkdaaW.PrintWords Go.Proofs.YtibahnmljafkdaaW.PrintLast
set_option linter.unusedVariables false
set_option linter.unusedSimpArgs false
def ownN (l : List Int) (n : Nat) : Nat := ((List.range n).filter fun (i : Nat) => decide (rd l (i : Int) = (i : Int))).length
theorem ownN_succ (l : List Int) (n : Nat) : ownN l (n + 1) = ownN l n + if rd l (n : Int) = (n : Int) then 1 else 0 := by
  unfold ownN
  rw [List.range_succ, List.filter_append, List.length_append]
  by_cases h : rd l (n : Int) = (n : Int) <;> simp [h]
theorem ownN_le (l : List Int) (n : Nat) : ownN l n ≤ n := by
  unfold ownN
  exact Nat.le_trans (List.length_filter_le _ _) (by simp)
theorem count_l0 (l : List Int) (hn : l.length ≤ 1000000) : ∀ (d i : Nat), i + d = l.length → Ev (fun k => spec_l06Count.l0 k l ((ownN l i : Nat) : Int) (i : Int)) ((ownN l l.length : Nat) : Int) := by
  intro d
  induction d with
  | zero =>
    intro i hi
    refine Ev.step (fun k => by rw [spec_l06Count.l0]) ?_
    simp only [if_neg (show ¬ ((i : Int) < (l.length : Int)) by omega)]
    exact ev_val (by have : i = l.length := by omega
                     rw [this])
  | succ d ih =>
    intro i hi
    refine Ev.step (fun k => by rw [spec_l06Count.l0]) ?_
    have h1 := ownN_succ l i
    have h2 := ownN_le l i
    simp only [if_pos (show ((i : Int) < (l.length : Int)) by omega), if_pos (show (0 : Int) ≤ (i : Int) by omega), wr1 i l.length (by omega) (by omega)]
    have h3 := ih (i + 1) (by omega)
    by_cases he : rd l (i : Int) = (i : Int)
    · simp only [if_pos he, wr1 (ownN l i) 2000000 (by omega) (by omega)]
      rw [h1, if_pos he] at h3
      exact h3
    · simp only [if_neg he]
      rw [h1, if_neg he] at h3
      exact h3
theorem ev_count (legs : List Int) (forks : List (List Int)) (hn : legs.length + forks.length ≤ 1000) (hf : ∀ f ∈ forks, f.length ≤ 1000) (hv : ∀ p ∈ webM legs forks, p.2.length = 2) : Ev (fun k => spec_l06Count.f k legs forks) ((ownN (partsC (legs.length + forks.length) (edgesM (webM legs forks))) (legs.length + forks.length) : Nat) : Int) := by
  unfold spec_l06Count.f
  refine Ev.bind (ev_parts legs forks hn hf hv) ?_
  have hl : (partsC (legs.length + forks.length) (edgesM (webM legs forks))).length = legs.length + forks.length := (partsC_is (edgesM_ok legs forks hv)).len
  have := count_l0 (partsC (legs.length + forks.length) (edgesM (webM legs forks))) (by omega) _ 0 (Nat.zero_add _)
  rw [hl] at this
  simpa [ownN] using this
def memN (l : List Int) (n : Nat) : Nat := ((List.range n).filter fun (v : Nat) => decide ((v : Int) ∈ l)).length
theorem memN_congr {l l' : List Int} (h : ∀ x, x ∈ l ↔ x ∈ l') (n : Nat) : memN l n = memN l' n := by
  unfold memN
  congr 1
  exact List.filter_congr (fun v _ => by simp [h])
theorem memN_nil (n : Nat) : memN [] n = 0 := by simp [memN]
theorem memN_snoc (l : List Int) (x n : Nat) (hx : x < n) : memN (l ++ [(x : Int)]) n = memN l n + if (x : Int) ∈ l then 0 else 1 := by
  by_cases hm : (x : Int) ∈ l
  · rw [if_pos hm, Nat.add_zero]
    exact memN_congr (fun y => by
      rw [List.mem_append, List.mem_singleton]
      exact ⟨fun h => by rcases h with h | rfl
                         · exact h
                         · exact hm, Or.inl⟩) n
  · rw [if_neg hm]
    unfold memN
    induction n with
    | zero => omega
    | succ n ih =>
      rw [List.range_succ, List.filter_append, List.filter_append, List.length_append, List.length_append]
      by_cases hxn : x = n
      · subst hxn
        have e1 : (List.range x).filter (fun (v : Nat) => decide ((v : Int) ∈ l ++ [(x : Int)])) = (List.range x).filter (fun (v : Nat) => decide ((v : Int) ∈ l)) := by
          refine List.filter_congr (fun v hv => ?_)
          have := List.mem_range.1 hv
          have h2 : ¬ (v : Int) = (x : Int) := by omega
          simp [h2]
        rw [e1]
        simp [hm]
      · have h1 := ih (by omega)
        have h2 : ¬ (n : Int) = (x : Int) := by omega
        have e1 : (List.filter (fun (v : Nat) => decide ((v : Int) ∈ l ++ [(x : Int)])) [n]).length = (List.filter (fun (v : Nat) => decide ((v : Int) ∈ l)) [n]).length := by
          by_cases h3 : (n : Int) ∈ l <;> simp [h2, h3]
        rw [e1]; omega
theorem compact_up (s : List Int) (hs : s.Pairwise (fun x y => x ≤ y)) (n : Nat) (hv : ∀ x ∈ s, 0 ≤ x ∧ x < (n : Int)) : ∀ m, m ≤ s.length → (Go.Lib.compactUpTo s.toArray m).length = memN (s.take m) n := by
  intro m
  induction m with
  | zero => intro _; simp [Go.Lib.compactUpTo, memN_nil]
  | succ m ih =>
    intro hm
    have hlt : m < s.length := by omega
    obtain ⟨x, hx⟩ : ∃ x : Nat, s[m] = (x : Int) := ⟨(s[m]).toNat, by have := (hv _ (List.getElem_mem hlt)).1; omega⟩
    have hxn : x < n := by have := (hv _ (List.getElem_mem hlt)).2; omega
    rw [Go.Lib.compactUpTo_succ, List.length_append, ih (by omega), List.take_succ_eq_append_getElem hlt, hx, memN_snoc _ _ _ hxn]
    congr 1
    have hg : ∀ j, j < s.length → s.toArray[j]! = s.getD j 0 := fun j hj => by simp [hj, List.getD_eq_getElem?_getD]
    have key : (x : Int) ∈ s.take m ↔ ¬ Go.Lib.keeps s.toArray m = true := by
      constructor
      · intro hmem hk
        obtain ⟨j, hj, he⟩ := List.getElem_of_mem hmem
        have hj2 : j < m := by simp at hj; omega
        rw [List.getElem_take] at he
        have hm0 : m ≠ 0 := by omega
        have h1 : s[j] ≤ s[m - 1] := by
          by_cases hjm : j = m - 1
          · subst hjm; exact Int.le_refl _
          · exact List.pairwise_iff_getElem.1 hs j (m - 1) (by omega) (by omega) (by omega)
        have h2 : s[m - 1] ≤ s[m] := List.pairwise_iff_getElem.1 hs (m - 1) m (by omega) hlt (by omega)
        have h3 : s[m - 1] = s[m] := by omega
        have : Go.Lib.keeps s.toArray m = false := Go.Lib.keeps_neg (by omega) (by
          rw [hg m hlt, hg (m - 1) (by omega)]
          simp only [List.getD_eq_getElem?_getD, List.getElem?_eq_getElem hlt, List.getElem?_eq_getElem (show m - 1 < s.length by omega), Option.getD_some]
          exact h3.symm)
        rw [this] at hk
        cases hk
      · intro hk
        have hm0 : 0 < m := by
          rcases Nat.eq_zero_or_pos m with h | h
          · subst h
            exact absurd (Go.Lib.keeps_lt_one s.toArray 0 (by omega)) hk
          · exact h
        have h3 : s[m] = s[m - 1] := by
          by_cases h : s[m] = s[m - 1]
          · exact h
          · exact absurd (Go.Lib.keeps_pos (by
              rw [hg m hlt, hg (m - 1) (by omega)]
              simp only [List.getD_eq_getElem?_getD, List.getElem?_eq_getElem hlt, List.getElem?_eq_getElem (show m - 1 < s.length by omega), Option.getD_some]
              exact h)) hk
        rw [← hx, h3]
        refine List.mem_of_getElem? (i := m - 1) ?_
        rw [List.getElem?_take_of_lt (by omega), List.getElem?_eq_getElem (by omega)]
    by_cases hk : Go.Lib.keeps s.toArray m = true
    · rw [if_pos hk, if_neg (fun h => key.1 h hk)]; rfl
    · rw [if_neg hk, if_pos (key.2 hk)]; rfl
theorem kinds_memN (l : List Int) (n : Nat) (hv : ∀ x ∈ l, 0 ≤ x ∧ x < (n : Int)) : kinds l = memN l n := by
  have hp : (sorted l).Perm l := List.mergeSort_perm l _
  have hs : (sorted l).Pairwise (fun x y => x ≤ y) := by
    have := List.pairwise_mergeSort (le := fun x y : Int => decide (x ≤ y)) (fun a b c h1 h2 => by simp at *; omega) (fun a b => by simp; omega) l
    exact this.imp (by simp)
  have h1 := compact_up (sorted l) hs n (fun x hx => hv x (hp.mem_iff.1 hx)) (sorted l).length (Nat.le_refl _)
  rw [List.take_length] at h1
  unfold kinds Go.Lib.compact
  rw [h1]
  exact memN_congr (fun x => hp.mem_iff) n
theorem kinds_own {n : Nat} {E : List (Nat × Nat)} {out : List Int} (hE : EdgesOk n E) (h : IsParts n E out) : kinds out = ownN out n := by
  have hmem : ∀ x, x ∈ out ↔ ∃ i : Nat, i < n ∧ rd out (i : Int) = x := fun x => by
    constructor
    · intro hx
      obtain ⟨i, hi, rfl⟩ := List.getElem_of_mem hx
      exact ⟨i, by have := h.len; omega, by simp [rd, List.getD_eq_getElem?_getD, List.getElem?_eq_getElem hi]⟩
    · rintro ⟨i, hi, rfl⟩
      have hl : i < out.length := by have := h.len; omega
      simp [rd, List.getD_eq_getElem?_getD, List.getElem?_eq_getElem hl]
  rw [kinds_memN out n (fun x hx => by
    obtain ⟨i, hi, rfl⟩ := (hmem x).1 hx
    obtain ⟨j, h1, _, h3⟩ := h.own i hi
    omega)]
  unfold memN ownN
  congr 1
  refine List.filter_congr (fun v hv => ?_)
  have hvn := List.mem_range.1 hv
  rw [decide_eq_decide, hmem]
  constructor
  · rintro ⟨i, hi, he⟩
    obtain ⟨j, h1, h2, _⟩ := h.own i hi
    have : j = v := by omega
    subst this
    rw [← h.conn h2, h1]
  · intro he
    exact ⟨v, hvn, he⟩
theorem kinds_partsC (legs : List Int) (forks : List (List Int)) (hv : ∀ p ∈ webM legs forks, p.2.length = 2) : kinds (partsC (legs.length + forks.length) (edgesM (webM legs forks))) = ownN (partsC (legs.length + forks.length) (edgesM (webM legs forks))) (legs.length + forks.length) :=
  kinds_own (edgesM_ok legs forks hv) (partsC_is (edgesM_ok legs forks hv))
end Go.Proofs.Ytibahnmljafkdaa.P
