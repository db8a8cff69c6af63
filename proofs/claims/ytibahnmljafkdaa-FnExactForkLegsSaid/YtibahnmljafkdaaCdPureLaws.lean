/- What the laws' own functions on lists, webs and sums come to: sizes, copies and comparisons: plain mathematics. -/
import Derived.Test.YtibahnmljafkdaaCdPureB
import Derived.Test.YtibahnmljafkdaaCdPx1
import Derived.Test.YtibahnmljafkdaaCdPx6
import Derived.Test.YtibahnmljafkdaaCdPx7
namespace Go.Proofs.Ytibahnmljafkdaa.P
open Go.RowKit Go.Proofs.YtibahnmljafkdaaW.PrintWords Go.Proofs.YtibahnmljafkdaaW.PrintLast
set_option linter.unusedVariables false
set_option linter.unusedSimpArgs false
theorem szI (l : List Int) (a : Int) (h0 : 0 ≤ a) (h1 : a ≤ 1048576) (hl : l.length ≤ 9223372036854775807) : ∃ s, laws_szInt64S.f l a = some s ∧ (s < 0 ∨ (0 ≤ s ∧ s ≤ a ∧ (l.length : Int) ≤ a)) := by
 have e : wrap64 (a - (l.length : Int)) = a - (l.length : Int) := by unfold wrap64; omega
 unfold laws_szInt64S.f
 rw [e]
 by_cases h : a - (l.length : Int) < 0
 · exact ⟨-1, by rw [if_pos h], .inl (by omega)⟩
 · exact ⟨a - (l.length : Int), by rw [if_neg h], .inr (by omega)⟩
theorem drop_cons_L (l : List (List Int)) (i : Nat) (h : i < l.length) : l.drop i = rd_L1 l (i : Int) :: l.drop (i + 1) := by
 rw [List.drop_eq_getElem_cons h]
 simp [rd_L1, List.getD_eq_getElem?_getD, List.getElem?_eq_getElem h]
theorem szSS_l0 (l : List (List Int)) (hn : l.length ≤ 1048576) (hl : ∀ f ∈ l, f.length ≤ 9223372036854775807) : ∀ (d i : Nat) (a : Int), i + d = l.length → 0 ≤ a → a ≤ 1048576 → ∃ s, Ev (fun k => laws_szInt64SS.l0 k l a (i : Int)) s ∧ (s < 0 ∨ (0 ≤ s ∧ s ≤ a ∧ ∀ f ∈ l.drop i, (f.length : Int) ≤ a)) := by
 intro d
 induction d with
 | zero =>
  intro i a hi h0 h1
  refine ⟨a, Ev.step (fun k => by rw [laws_szInt64SS.l0]) ?_, .inr ⟨h0, Int.le_refl _, ?_⟩⟩
  · simp only [if_neg (show ¬ ((i : Int) < (l.length : Int)) by omega)]
    exact Ev.now _
  · rw [List.drop_of_length_le (by omega)]; simp
 | succ d ih =>
  intro i a hi h0 h1
  have hd := drop_cons_L l i (by omega)
  have hm : rd_L1 l (i : Int) ∈ l := by
   have : rd_L1 l (i : Int) ∈ l.drop i := by rw [hd]; exact List.mem_cons_self
   exact List.mem_of_mem_drop this
  obtain ⟨s, hs, hs2⟩ := szI (rd_L1 l (i : Int)) a h0 h1 (hl _ hm)
  rcases hs2 with hs2 | ⟨h2, h3, h4⟩
  · refine ⟨-1, Ev.step (fun k => by rw [laws_szInt64SS.l0]) ?_, .inl (by omega)⟩
    simp only [if_pos (show ((i : Int) < (l.length : Int)) by omega), if_pos (show (0 : Int) ≤ (i : Int) by omega), hs, Option.bind_some, if_pos hs2]
    exact Ev.now _
  · obtain ⟨s', h5, h6⟩ := ih (i + 1) s (by omega) h2 (by omega)
    refine ⟨s', Ev.step (fun k => by rw [laws_szInt64SS.l0]) ?_, ?_⟩
    · simp only [if_pos (show ((i : Int) < (l.length : Int)) by omega), if_pos (show (0 : Int) ≤ (i : Int) by omega), hs, Option.bind_some, if_neg (show ¬ s < 0 by omega), wr1 i l.length (by omega) (by omega)]
      exact h5
    · rcases h6 with h6 | ⟨h6, h7, h8⟩
      · exact .inl h6
      · refine .inr ⟨h6, by omega, ?_⟩
        rw [hd]
        intro f hf
        rcases List.mem_cons.1 hf with rfl | hf
        · exact h4
        · have := h8 f hf; omega
theorem szSS (l : List (List Int)) (a : Int) (h0 : 0 ≤ a) (h1 : a ≤ 1048576) (hn : l.length ≤ 9223372036854775807) (hl : ∀ f ∈ l, f.length ≤ 9223372036854775807) : ∃ s, Ev (fun k => laws_szInt64SS.f k l a) s ∧ (s < 0 ∨ (0 ≤ s ∧ s ≤ a ∧ (l.length : Int) ≤ a ∧ ∀ f ∈ l, (f.length : Int) ≤ a)) := by
 have e : wrap64 (a - (l.length : Int)) = a - (l.length : Int) := by unfold wrap64; omega
 unfold laws_szInt64SS.f
 rw [e]
 by_cases h : a - (l.length : Int) < 0
 · exact ⟨-1, by simp only [if_pos h]; exact Ev.now _, .inl (by omega)⟩
 · obtain ⟨s, h2, h3⟩ := szSS_l0 l (by omega) hl l.length 0 (a - (l.length : Int)) (by omega) (by omega) (by omega)
   refine ⟨s, by simp only [if_neg h]; exact h2, ?_⟩
   rcases h3 with h3 | ⟨h3, h4, h5⟩
   · exact .inl h3
   · refine .inr ⟨h3, by omega, by omega, fun f hf => ?_⟩
     have := h5 f (by simpa using hf)
     omega
theorem szWeb (legs : List Int) (forks : List (List Int)) (a : Int) (h0 : 0 ≤ a) (h1 : a ≤ 1048576) (hg : legs.length ≤ 9223372036854775807) (hn : forks.length ≤ 9223372036854775807) (hl : ∀ f ∈ forks, f.length ≤ 9223372036854775807) :
 ∃ s, Ev (fun k => laws_szWeb.f k legs forks a) s ∧ (s < 0 ∨ (0 ≤ s ∧ s ≤ a ∧ (legs.length : Int) ≤ a ∧ (forks.length : Int) ≤ a ∧ ∀ f ∈ forks, (f.length : Int) ≤ a)) := by
 unfold laws_szWeb.f
 obtain ⟨s, h2, h3⟩ := szI legs a h0 h1 hg
 simp only [h2, Option.bind_some]
 rcases h3 with h3 | ⟨h3, h4, h5⟩
 · exact ⟨-1, by simp only [if_pos h3]; exact Ev.now _, .inl (by omega)⟩
 · simp only [if_neg (show ¬ s < 0 by omega)]
   obtain ⟨s', h6, h7⟩ := szSS forks s h3 (by omega) hn hl
   rcases h7 with h7 | ⟨h7, h8, h9, h10⟩
   · refine ⟨-1, Ev.bind h6 ?_, .inl (by omega)⟩
     simp only [if_pos h7]; exact Ev.now _
   · refine ⟨s', Ev.bind h6 ?_, .inr ⟨h7, by omega, h5, by omega, fun f hf => by have := h10 f hf; omega⟩⟩
     simp only [if_neg (show ¬ s' < 0 by omega)]; exact Ev.now _
theorem fill_set {α : Type} (z x : α) (l : List α) (i d : Nat) (hi : l.length = i) : (l ++ List.replicate (d + 1) z).set i x = (l ++ [x]) ++ List.replicate d z := by
 subst hi
 rw [List.set_append_right _ _ (Nat.le_refl _), Nat.sub_self, List.replicate_succ, List.set_cons_zero, List.append_assoc]
 rfl
theorem toI_l0 (l : List Int) (hn : l.length ≤ 1000000000000) : ∀ (d i : Nat), i + d = l.length → Ev (fun k => laws_toInt64S.l0 k l (l.take i ++ List.replicate d 0) (i : Int)) l := by
 intro d
 induction d with
 | zero =>
  intro i hi
  refine Ev.step (fun k => by rw [laws_toInt64S.l0]) ?_
  simp only [if_neg (show ¬ ((i : Int) < (l.length : Int)) by omega)]
  exact ev_val (by rw [List.take_of_length_le (by omega)]; simp)
 | succ d ih =>
  intro i hi
  refine Ev.step (fun k => by rw [laws_toInt64S.l0]) ?_
  have hl : (l.take i).length = i := by simp; omega
  have hs : (l.take i ++ List.replicate (d + 1) (0 : Int)).length = l.length := by simp; omega
  simp only [if_pos (show ((i : Int) < (l.length : Int)) by omega), if_pos (show (0 : Int) ≤ (i : Int) by omega), hs, Int.toNat_natCast, fill_set (0 : Int) (rd l (i : Int)) (l.take i) i d hl, wr1 i l.length (by omega) (by omega)]
  rw [← take_succ_rd l i (by omega)]
  exact ih (i + 1) (by omega)
theorem ev_toI (l : List Int) (hn : l.length ≤ 1000000000000) : Ev (fun k => laws_toInt64S.f k l) l := by
 unfold laws_toInt64S.f
 simp only [if_pos (show (0 : Int) ≤ (l.length : Int) by omega), Int.toNat_natCast, if_pos (show l.length ≤ 35184372088832 by omega)]
 have := toI_l0 l hn l.length 0 (by omega)
 simpa using this
theorem take_succ_L (l : List (List Int)) (k : Nat) (h : k < l.length) : l.take (k + 1) = l.take k ++ [rd_L1 l (k : Int)] := by
 rw [List.take_succ_eq_append_getElem h]
 simp [rd_L1, List.getD_eq_getElem?_getD, List.getElem?_eq_getElem h]
theorem rdL_mem (l : List (List Int)) (k : Nat) (h : k < l.length) : rd_L1 l (k : Int) ∈ l := by
 have : rd_L1 l (k : Int) ∈ l.drop k := by rw [drop_cons_L l k h]; exact List.mem_cons_self
 exact List.mem_of_mem_drop this
theorem toSS_l0 (l : List (List Int)) (hn : l.length ≤ 1000000000) (hf : ∀ f ∈ l, f.length ≤ 1000000000000) : ∀ (d i : Nat), i + d = l.length → Ev (fun k => laws_toInt64SS.l0 k l (l.take i ++ List.replicate d []) (i : Int)) l := by
 intro d
 induction d with
 | zero =>
  intro i hi
  refine Ev.step (fun k => by rw [laws_toInt64SS.l0]) ?_
  simp only [if_neg (show ¬ ((i : Int) < (l.length : Int)) by omega)]
  exact ev_val (by rw [List.take_of_length_le (by omega)]; simp)
 | succ d ih =>
  intro i hi
  refine Ev.step (fun k => by rw [laws_toInt64SS.l0]) ?_
  have hl : (l.take i).length = i := by simp; omega
  have hs : (l.take i ++ List.replicate (d + 1) ([] : List Int)).length = l.length := by simp; omega
  simp only [if_pos (show ((i : Int) < (l.length : Int)) by omega), if_pos (show (0 : Int) ≤ (i : Int) by omega), hs, Int.toNat_natCast]
  refine Ev.bind (ev_toI _ (hf _ (rdL_mem l i (by omega)))) ?_
  simp only [fill_set ([] : List Int) (rd_L1 l (i : Int)) (l.take i) i d hl, wr1 i l.length (by omega) (by omega)]
  rw [← take_succ_L l i (by omega)]
  exact ih (i + 1) (by omega)
theorem ev_toSS (l : List (List Int)) (hn : l.length ≤ 1000000000) (hf : ∀ f ∈ l, f.length ≤ 1000000000000) : Ev (fun k => laws_toInt64SS.f k l) l := by
 unfold laws_toInt64SS.f
 simp only [if_pos (show (0 : Int) ≤ (l.length : Int) by omega), Int.toNat_natCast, if_pos (show l.length ≤ 11728124029610 by omega)]
 have := toSS_l0 l hn hf l.length 0 (by omega)
 simpa using this
theorem ev_toWeb (legs : List Int) (forks : List (List Int)) (h0 : legs.length ≤ 1000000000000) (hn : forks.length ≤ 1000000000) (hf : ∀ f ∈ forks, f.length ≤ 1000000000000) : Ev (fun k => laws_toWeb.f k legs forks) (legs, forks) := by
 unfold laws_toWeb.f
 exact Ev.bind (ev_toI legs h0) (Ev.bind (ev_toSS forks hn hf) (Ev.now _))
theorem eqI_l0 (l : List Int) (hn : l.length ≤ 1000000000000) : ∀ (d i : Nat), i + d = l.length → Ev (fun k => laws_eqInt64S.l0 k l l (i : Int)) true := by
 intro d
 induction d with
 | zero =>
  intro i hi
  refine Ev.step (fun k => by rw [laws_eqInt64S.l0]) ?_
  simp only [if_neg (show ¬ ((i : Int) < (l.length : Int)) by omega)]
  exact Ev.now _
 | succ d ih =>
  intro i hi
  refine Ev.step (fun k => by rw [laws_eqInt64S.l0]) ?_
  simp only [if_pos (show ((i : Int) < (l.length : Int)) by omega), if_pos (show (0 : Int) ≤ (i : Int) by omega), if_true, wr1 i l.length (by omega) (by omega)]
  exact ih (i + 1) (by omega)
theorem ev_eqI (l : List Int) (hn : l.length ≤ 1000000000000) : Ev (fun k => laws_eqInt64S.f k l l) true := by
 unfold laws_eqInt64S.f
 simp only [if_true]
 exact eqI_l0 l hn l.length 0 (by omega)
theorem eqSS_l0 (l : List (List Int)) (hn : l.length ≤ 1000000000000) (hf : ∀ f ∈ l, f.length ≤ 1000000000000) : ∀ (d i : Nat), i + d = l.length → Ev (fun k => laws_eqInt64SS.l0 k l l (i : Int)) true := by
 intro d
 induction d with
 | zero =>
  intro i hi
  refine Ev.step (fun k => by rw [laws_eqInt64SS.l0]) ?_
  simp only [if_neg (show ¬ ((i : Int) < (l.length : Int)) by omega)]
  exact Ev.now _
 | succ d ih =>
  intro i hi
  refine Ev.step (fun k => by rw [laws_eqInt64SS.l0]) ?_
  simp only [if_pos (show ((i : Int) < (l.length : Int)) by omega), if_pos (show (0 : Int) ≤ (i : Int) by omega), wr1 i l.length (by omega) (by omega)]
  refine Ev.bind (ev_eqI _ (hf _ (rdL_mem l i (by omega)))) ?_
  simp only [if_true]
  exact ih (i + 1) (by omega)
theorem ev_eqSS (l : List (List Int)) (hn : l.length ≤ 1000000000000) (hf : ∀ f ∈ l, f.length ≤ 1000000000000) : Ev (fun k => laws_eqInt64SS.f k l l) true := by
 unfold laws_eqInt64SS.f
 simp only [if_true]
 exact eqSS_l0 l hn hf l.length 0 (by omega)
theorem ev_eqWeb (legs : List Int) (forks : List (List Int)) (h0 : legs.length ≤ 1000000000000) (hn : forks.length ≤ 1000000000000) (hf : ∀ f ∈ forks, f.length ≤ 1000000000000) : Ev (fun k => laws_eqWeb.f k legs forks legs forks) true := by
 unfold laws_eqWeb.f
 refine Ev.bind (ev_eqI legs h0) ?_
 simp only [if_true]
 refine Ev.bind (ev_eqSS forks hn hf) ?_
 simp only [if_true]
 exact Ev.now _
end Go.Proofs.Ytibahnmljafkdaa.P
