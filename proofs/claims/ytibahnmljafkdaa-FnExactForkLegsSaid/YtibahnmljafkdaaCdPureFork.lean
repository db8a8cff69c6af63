/- What the reference's ForkLegs comes to: plain mathematics. -/
import Derived.Test.YtibahnmljafkdaaCdPureParts
import Derived.Test.YtibahnmljafkdaaCdPureLaws
import Derived.Test.YtibahnmljafkdaaCdPx5
import Derived.Test.YtibahnmljafkdaaCdPx4
namespace Go.Proofs.Ytibahnmljafkdaa.P
open Go.RowKit Go.Proofs.YtibahnmljafkdaaW.PrintWords Go.Proofs.YtibahnmljafkdaaW.PrintLast
set_option linter.unusedVariables false
set_option linter.unusedSimpArgs false
theorem find_l0 (l : List Int) (x : Int) (hn : l.length ≤ 1000000000000) : ∀ (d i : Nat), i + d = l.length → Ev (fun k => spec_l06Find.l0 k l x (i : Int)) (if x ∈ l.drop i then ((i + (l.drop i).idxOf x : Nat) : Int) else -1) := by
 intro d
 induction d with
 | zero =>
  intro i hi
  refine Ev.step (fun k => by rw [spec_l06Find.l0]) ?_
  simp only [if_neg (show ¬ ((i : Int) < (l.length : Int)) by omega)]
  refine ev_val ?_
  rw [List.drop_of_length_le (by omega)]
  simp
 | succ d ih =>
  intro i hi
  refine Ev.step (fun k => by rw [spec_l06Find.l0]) ?_
  simp only [if_pos (show (i : Int) < (l.length : Int) by omega), if_pos (show (0 : Int) ≤ (i : Int) by omega)]
  rw [rd_drop l i (by omega)]
  by_cases he : rd l (i : Int) = x
  · simp only [if_pos he]
    refine ev_val ?_
    rw [he]
    simp
  · simp only [if_neg he, wr1 i l.length (by omega) (by omega)]
    have h1 := ih (i + 1) (by omega)
    have hb : (rd l (i : Int) == x) = false := by simpa using he
    by_cases hm : x ∈ l.drop (i + 1)
    · rw [if_pos hm] at h1
      rw [if_pos (List.mem_cons_of_mem _ hm), List.idxOf_cons, hb]
      have e1 : i + 1 + List.idxOf x (List.drop (i + 1) l) = i + (List.idxOf x (List.drop (i + 1) l) + 1) := by omega
      rw [e1] at h1
      exact h1
    · rw [if_neg hm] at h1
      rw [if_neg (by simp [Ne.symm he]; simpa using hm)]
      exact h1
theorem ev_find (l : List Int) (x : Int) (hn : l.length ≤ 1000000000000) : Ev (fun k => spec_l06Find.f k l x) (if x ∈ l then ((l.idxOf x : Nat) : Int) else -1) := by
 have := find_l0 l x hn l.length 0 (by omega)
 simpa [spec_l06Find.f] using this
theorem find_ge (l : List Int) (x : Int) : decide ((if x ∈ l then ((l.idxOf x : Nat) : Int) else -1) ≥ 0) = decide (x ∈ l) := by
 by_cases h : x ∈ l
 · simp [h]
 · simp [h]
theorem isWebB_facts {legs : List Int} {forks : List (List Int)} (h : isWebB legs forks = true) : legs.length + forks.length ≤ 8 ∧ (∀ f ∈ forks, f.length = 3) ∧ ∀ x ∈ allE legs forks, x ≤ 1000 := by
 simp only [isWebB, Bool.and_eq_true, decide_eq_true_eq] at h
 refine ⟨h.1.1.1, fun f hf => ?_, fun x hx => ?_⟩
 · have h2 := h.1.1.2
   rw [Bool.not_eq_true', List.any_eq_false] at h2
   have := h2 f hf
   simp [not3] at this
   omega
 · have h2 := h.1.2
   rw [all_ok] at h2
   have := List.all_eq_true.1 h2 x hx
   simp only [okE, Bool.and_eq_true, decide_eq_true_eq] at this
   exact this.2.2
def mexL (A : List Int) : Nat := ((List.range 2000).find? fun (j : Nat) => decide ((j : Int) ∉ A)).getD 0
theorem mexL_is (A : List Int) (hA : ∀ x ∈ A, x ≤ 1000) : (mexL A : Int) ∉ A ∧ (∀ j : Nat, j < mexL A → (j : Int) ∈ A) ∧ mexL A ≤ 1001 := by
 cases h : (List.range 2000).find? fun (j : Nat) => decide ((j : Int) ∉ A) with
 | none =>
  have := List.find?_eq_none.1 h 1001 (List.mem_range.2 (by omega))
  simp at this
  have := hA _ this
  omega
 | some m =>
  have hm : mexL A = m := by unfold mexL; rw [h]; rfl
  rw [hm]
  have h1 := List.find?_some h
  simp only [decide_eq_true_eq] at h1
  have h2 := List.find?_range_eq_some.1 h
  refine ⟨h1, fun j hj => ?_, ?_⟩
  · have := h2.2.2 j hj
    simpa using this
  · by_cases h3 : m ≤ 1001
    · exact h3
    · have := h2.2.2 1001 (by omega)
      simp at this
      have := hA _ this
      omega
section
variable (legs : List Int) (forks : List (List Int)) (hn : legs.length + forks.length ≤ 1000) (hf : ∀ f ∈ forks, f.length = 3) (x1 : Int)
include hn hf
theorem fork_l1 (e : Nat) (he : e ≤ 2000) (r : List Int × List (List Int) × Int) :
 ∀ (d i : Nat) (b : Bool), i + d = forks.length → (if b || (forks.drop i).any (fun f => decide ((e : Int) ∈ f)) then Ev (fun k => spec_ForkLegs.l0 k x1 ((e + 1 : Nat) : Int) true legs forks) r else Ev (fun k => spec_ForkLegs.l0 k x1 (e : Int) false legs forks) r) → Ev (fun k => spec_ForkLegs.l1 k x1 (e : Int) b (i : Int) legs forks) r := by
 intro d
 induction d with
 | zero =>
  intro i b hi h
  refine Ev.step (fun k => by rw [spec_ForkLegs.l1]) ?_
  rw [List.drop_of_length_le (by omega)] at h
  simp only [if_neg (show ¬ ((i : Int) < (forks.length : Int)) by omega), wr1 e 100000 (by omega) (by omega)]
  cases b with
  | false => simpa using h
  | true => simpa using h
 | succ d ih =>
  intro i b hi h
  refine Ev.step (fun k => by rw [spec_ForkLegs.l1]) ?_
  simp only [if_pos (show ((i : Int) < (forks.length : Int)) by omega), if_pos (show (0 : Int) ≤ (i : Int) by omega), wr1 i forks.length (by omega) (by omega)]
  rw [drop_cons_L forks i (by omega), List.any_cons] at h
  cases b with
  | true =>
   simp only [if_true]
   exact ih (i + 1) true (by omega) (by simpa using h)
  | false =>
   simp only [Bool.false_eq_true, if_false]
   refine Ev.bind (ev_find _ _ (by have := hf _ (rdL_mem forks i (by omega)); omega)) ?_
   rw [find_ge]
   exact ih (i + 1) _ (by omega) (by simpa using h)
omit hn hf in
theorem allE_mem (x : Int) : x ∈ allE legs forks ↔ x ∈ legs ∨ forks.any (fun f => decide (x ∈ f)) = true := by
 unfold allE
 rw [List.mem_append, List.mem_flatten, List.any_eq_true]
 constructor
 · rintro (h | ⟨f, h1, h2⟩)
   · exact .inl h
   · exact .inr ⟨f, h1, by simpa using h2⟩
 · rintro (h | ⟨f, h1, h2⟩)
   · exact .inl h
   · exact .inr ⟨f, h1, by simpa using h2⟩
theorem fork_l0 (m : Nat) (hm : m ≤ 1001) (h1 : (m : Int) ∉ allE legs forks) (h2 : ∀ j : Nat, j < m → (j : Int) ∈ allE legs forks) (r : List Int × List (List Int) × Int) (hfin : Ev (fun k => spec_ForkLegs.l0 k x1 (m : Int) false legs forks) r) :
 ∀ (d e : Nat), e + d = m → Ev (fun k => spec_ForkLegs.l0 k x1 (e : Int) true legs forks) r := by
 intro d
 induction d with
 | zero =>
  intro e he
  obtain rfl : e = m := by omega
  refine Ev.step (fun k => by rw [spec_ForkLegs.l0]) ?_
  simp only [if_true]
  refine Ev.bind (ev_find _ _ (by omega)) ?_
  rw [find_ge]
  have h3 := fun h => h1 ((allE_mem legs forks _).2 h)
  have h4 : ¬ (e : Int) ∈ legs := fun h => h3 (.inl h)
  have h5 : forks.any (fun f => decide ((e : Int) ∈ f)) = false := by
   cases hb : forks.any (fun f => decide ((e : Int) ∈ f)) with
   | false => rfl
   | true => exact absurd (.inr hb) h3
  refine fork_l1 legs forks hn hf x1 e (by omega) r forks.length 0 _ (by omega) ?_
  rw [List.drop_zero, h5]
  simp only [h4, decide_false, Bool.or_self, Bool.false_eq_true, if_false]
  exact hfin
 | succ d ih =>
  intro e he
  refine Ev.step (fun k => by rw [spec_ForkLegs.l0]) ?_
  simp only [if_true]
  refine Ev.bind (ev_find _ _ (by omega)) ?_
  rw [find_ge]
  refine fork_l1 legs forks hn hf x1 e (by omega) r forks.length 0 _ (by omega) ?_
  rw [List.drop_zero]
  have h3 := (allE_mem legs forks _).1 (h2 e (by omega))
  have h4 : (decide ((e : Int) ∈ legs) || forks.any fun f => decide ((e : Int) ∈ f)) = true := by
   rcases h3 with h | h
   · simp [h]
   · rw [h]; simp
  rw [h4, if_pos rfl]
  exact ih (e + 1) (by omega)
theorem copy_l0 : ∀ (d i : Nat), i + d = forks.length → Ev (fun k => spec_l06Copy.l0 k (i : Int) legs forks legs (forks.take i)) (legs, forks) := by
 intro d
 induction d with
 | zero =>
  intro i hi
  refine Ev.step (fun k => by rw [spec_l06Copy.l0]) ?_
  simp only [if_neg (show ¬ ((i : Int) < (forks.length : Int)) by omega)]
  exact ev_val (by rw [List.take_of_length_le (by omega)])
 | succ d ih =>
  intro i hi
  refine Ev.step (fun k => by rw [spec_l06Copy.l0]) ?_
  have h3 := hf _ (rdL_mem forks i (by omega))
  have hl : (forks.take i).length < 5864062014805 := by simp; omega
  simp only [if_pos (show ((i : Int) < (forks.length : Int)) by omega), if_pos (show (0 : Int) ≤ (i : Int) by omega), spec_l01Own.f, Option.bind_some, List.length_nil, if_pos (show 0 + (rd_L1 forks (i : Int)).length < 17592186044416 by omega), List.nil_append, if_pos hl, wr1 i forks.length (by omega) (by omega)]
  rw [← take_succ_L forks i (by omega)]
  exact ih (i + 1) (by omega)
theorem ev_copy : Ev (fun k => spec_l06Copy.f k legs forks) (legs, forks) := by
 unfold spec_l06Copy.f
 simp only [spec_l01Own.f, Option.bind_some, List.length_nil, if_pos (show 0 + legs.length < 17592186044416 by omega), List.nil_append]
 have := copy_l0 legs forks hn hf forks.length 0 (by omega)
 simpa using this
def forkedLegs (legs : List Int) (m k : Nat) : List Int := legs.take k ++ [(m : Int)] ++ legs.drop (k + 2)
def forkedForks (legs : List Int) (forks : List (List Int)) (m k : Nat) : List (List Int) := forks ++ [[(m : Int), rd legs (k : Int), rd legs ((k + 1 : Nat) : Int)]]
theorem fork_fin (m : Nat) (hm : m ≤ 1001) (j : Nat) (hj : j + 2 ≤ legs.length) : Ev (fun k => spec_ForkLegs.l0 k (j : Int) (m : Int) false legs forks) (forkedLegs legs m j, forkedForks legs forks m j, 0) := by
 refine Ev.step (fun k => by rw [spec_ForkLegs.l0]) ?_
 simp only [Bool.false_eq_true, if_false]
 refine Ev.bind (ev_copy legs forks hn hf) ?_
 have e2 : wrap64 ((j : Int) + 2) = ((j + 2 : Nat) : Int) := by unfold wrap64; omega
 have ht : (legs.take j).length = j := by simp; omega
 simp only [if_pos (show (0 : Int) ≤ (j : Int) by omega), if_pos (show (j : Int) < (legs.length : Int) by omega), wr1 j legs.length (by omega) (by omega), if_pos (show (0 : Int) ≤ ((j + 1 : Nat) : Int) by omega), if_pos (show ((j + 1 : Nat) : Int) < (legs.length : Int) by omega), Option.bind_some, List.length_cons, List.length_nil, if_pos (show forks.length + (0 + 1) < 5864062014805 by omega), if_pos (show (j : Int) ≤ (legs.length : Int) by omega), Int.toNat_natCast, spec_l01Own.f, ht, if_pos (show 0 + j < 17592186044416 by omega), List.nil_append, if_pos (show j + (0 + 1) < 17592186044416 by omega), e2, if_pos (show (0 : Int) ≤ ((j + 2 : Nat) : Int) by omega), if_pos (show ((j + 2 : Nat) : Int) ≤ (legs.length : Int) by omega), List.length_append, List.length_drop, if_pos (show j + (0 + 1) + (legs.length - (j + 2)) < 17592186044416 by omega)]
 exact ev_val rfl
end
def forkR (legs : List Int) (forks : List (List Int)) (x : Int) : List Int × List (List Int) × Int :=
 if isWebB legs forks then if 0 ≤ x ∧ x ≤ (legs.length : Int) - 2 then (forkedLegs legs (mexL (allE legs forks)) x.toNat, forkedForks legs forks (mexL (allE legs forks)) x.toNat, 0) else ([], [], 2) else ([], [], 1)
theorem ev_fork (legs : List Int) (forks : List (List Int)) (x : Int) (h0 : legs.length ≤ 1000000000000) (h1 : forks.length ≤ 1000000000000) : Ev (fun k => spec_ForkLegs.f k legs forks x) (forkR legs forks x) := by
 unfold spec_ForkLegs.f spec_l06Code.f
 cases hi : isWebB legs forks with
 | false =>
  have hr : forkR legs forks x = ([], [], 1) := by simp [forkR, hi]
  rw [hr]
  refine Ev.bind (a := 1) (Ev.bind (ev_webIs legs forks h0 h1) ?_) ?_
  · rw [hi]; simp only [Bool.false_eq_true, if_false]; exact Ev.now _
  · simp only [if_neg (show ¬ (1 : Int) = 0 by omega)]; exact Ev.now _
 | true =>
  have hw := isWebB_facts hi
  have e1 : wrap64 ((legs.length : Int) - 2) = (legs.length : Int) - 2 := by unfold wrap64; omega
  by_cases hx : 0 ≤ x ∧ x ≤ (legs.length : Int) - 2
  · have hr : forkR legs forks x = (forkedLegs legs (mexL (allE legs forks)) x.toNat, forkedForks legs forks (mexL (allE legs forks)) x.toNat, 0) := by simp only [forkR, hi, if_true, if_pos hx]
    rw [hr]
    refine Ev.bind (a := 0) (Ev.bind (ev_webIs legs forks h0 h1) ?_) ?_
    · rw [hi]
      simp only [if_true, spec_l01In.f, e1, if_pos (show x ≥ 0 from hx.1), Option.bind_some, hx.2, decide_true]
      exact Ev.now _
    · simp only [if_true]
      have hm := mexL_is (allE legs forks) hw.2.2
      obtain ⟨j, rfl⟩ : ∃ j : Nat, x = j := ⟨x.toNat, by omega⟩
      rw [Int.toNat_natCast]
      have := fork_l0 legs forks (by omega) hw.2.1 (j : Int) (mexL (allE legs forks)) hm.2.2 hm.1 hm.2.1 _ (fork_fin legs forks (by omega) hw.2.1 (mexL (allE legs forks)) hm.2.2 j (by omega)) (mexL (allE legs forks)) 0 (by omega)
      exact this
  · have hr : forkR legs forks x = ([], [], 2) := by simp only [forkR, hi, if_true, if_neg hx]
    rw [hr]
    refine Ev.bind (a := 2) (Ev.bind (ev_webIs legs forks h0 h1) ?_) ?_
    · rw [hi]
      simp only [if_true, spec_l01In.f, e1]
      by_cases h2 : x ≥ 0
      · have h3 : ¬ x ≤ (legs.length : Int) - 2 := fun h => hx ⟨h2, h⟩
        simp only [if_pos h2, Option.bind_some, h3, decide_false, Bool.false_eq_true, if_false]; exact Ev.now _
      · simp only [if_neg h2, Option.bind_some, Bool.false_eq_true, if_false]; exact Ev.now _
    · simp only [if_neg (show ¬ (2 : Int) = 0 by omega)]; exact Ev.now _
end Go.Proofs.Ytibahnmljafkdaa.P
