/- What the laws' own functions on sums come to: sizes, copies and comparisons: plain mathematics. -/
import Derived.Test.YtibahnmljafkdaaCaPureLaws
import Derived.Test.YtibahnmljafkdaaCaPx1
import Derived.Test.YtibahnmljafkdaaCaPx6
import Derived.Test.YtibahnmljafkdaaCaPx7
import Derived.Test.YtibahnmljafkdaaCaPx11
import Derived.Test.YtibahnmljafkdaaCaPx10
namespace Go.Proofs.Ytibahnmljafkdaa.P
open Go.RowKit Go.Proofs.YtibahnmljafkdaaW.PrintWords Go.Proofs.YtibahnmljafkdaaW.PrintLast
set_option linter.unusedVariables false
set_option linter.unusedSimpArgs false
theorem drop_cons_U (l : List S95) (i : Nat) (h : i < l.length) : l.drop i = rd_T95 l (i : Int) :: l.drop (i + 1) := by
 rw [List.drop_eq_getElem_cons h]
 simp [rd_T95, List.getD_eq_getElem?_getD, List.getElem?_eq_getElem h]
theorem rdU_mem (l : List S95) (k : Nat) (h : k < l.length) : rd_T95 l (k : Int) ∈ l := by
 have : rd_T95 l (k : Int) ∈ l.drop k := by rw [drop_cons_U l k h]; exact List.mem_cons_self
 exact List.mem_of_mem_drop this
theorem szTerm (t : S95) (a : Int) (h0 : 0 ≤ a) (h1 : a ≤ 1048576) (hl : t.f0.length ≤ 9223372036854775807) : ∃ s, laws_szTerm.f t.f0 t.f1 a = some s ∧ (s < 0 ∨ (0 ≤ s ∧ s ≤ a ∧ (t.f0.length : Int) ≤ a)) := by
 obtain ⟨s, h2, h3⟩ := szI t.f0 a h0 h1 hl
 unfold laws_szTerm.f
 rw [h2, Option.bind_some]
 by_cases hs : s < 0
 · exact ⟨-1, by rw [if_pos hs], .inl (by omega)⟩
 · exact ⟨s, by rw [if_neg hs], h3⟩
theorem szTermS_l0 (l : List S95) (hn : l.length ≤ 1048576) (hl : ∀ t ∈ l, t.f0.length ≤ 9223372036854775807) : ∀ (d i : Nat) (a : Int), i + d = l.length → 0 ≤ a → a ≤ 1048576 → ∃ s, Ev (fun k => laws_szTermS.l0 k l a (i : Int)) s ∧ (s < 0 ∨ (0 ≤ s ∧ s ≤ a ∧ ∀ t ∈ l.drop i, (t.f0.length : Int) ≤ a)) := by
 intro d
 induction d with
 | zero =>
  intro i a hi h0 h1
  refine ⟨a, Ev.step (fun k => by rw [laws_szTermS.l0]) ?_, .inr ⟨h0, Int.le_refl _, ?_⟩⟩
  · simp only [if_neg (show ¬ ((i : Int) < (l.length : Int)) by omega)]
    exact Ev.now _
  · rw [List.drop_of_length_le (by omega)]; simp
 | succ d ih =>
  intro i a hi h0 h1
  have hd := drop_cons_U l i (by omega)
  obtain ⟨s, hs, hs2⟩ := szTerm (rd_T95 l (i : Int)) a h0 h1 (hl _ (rdU_mem l i (by omega)))
  rcases hs2 with hs2 | ⟨h2, h3, h4⟩
  · refine ⟨-1, Ev.step (fun k => by rw [laws_szTermS.l0]) ?_, .inl (by omega)⟩
    simp only [if_pos (show ((i : Int) < (l.length : Int)) by omega), if_pos (show (0 : Int) ≤ (i : Int) by omega), hs, Option.bind_some, if_pos hs2]
    exact Ev.now _
  · obtain ⟨s', h5, h6⟩ := ih (i + 1) s (by omega) h2 (by omega)
    refine ⟨s', Ev.step (fun k => by rw [laws_szTermS.l0]) ?_, ?_⟩
    · simp only [if_pos (show ((i : Int) < (l.length : Int)) by omega), if_pos (show (0 : Int) ≤ (i : Int) by omega), hs, Option.bind_some, if_neg (show ¬ s < 0 by omega), wr1 i l.length (by omega) (by omega)]
      exact h5
    · rcases h6 with h6 | ⟨h6, h7, h8⟩
      · exact .inl h6
      · refine .inr ⟨h6, by omega, ?_⟩
        rw [hd]
        intro f hf
        rcases List.mem_cons.1 hf with rfl | hf
        · exact h4
        · have := h8 f hf; omega
theorem szSum (p : Int) (l : List S95) (a : Int) (h0 : 0 ≤ a) (h1 : a ≤ 1048576) (hn : l.length ≤ 9223372036854775807) (hl : ∀ t ∈ l, t.f0.length ≤ 9223372036854775807) : ∃ s, Ev (fun k => laws_szSum.f k p l a) s ∧ (s < 0 ∨ (0 ≤ s ∧ s ≤ a ∧ (l.length : Int) ≤ a ∧ ∀ t ∈ l, (t.f0.length : Int) ≤ a)) := by
 have e : wrap64 (a - (l.length : Int)) = a - (l.length : Int) := by unfold wrap64; omega
 unfold laws_szSum.f laws_szTermS.f
 rw [e]
 by_cases h : a - (l.length : Int) < 0
 · refine ⟨-1, ?_, .inl (by omega)⟩
   simp only [if_pos h, Option.bind_some, if_pos (show (-1 : Int) < 0 by omega)]; exact Ev.now _
 · obtain ⟨s, h2, h3⟩ := szTermS_l0 l (by omega) hl l.length 0 (a - (l.length : Int)) (by omega) (by omega) (by omega)
   simp only [if_neg h]
   rcases h3 with h3 | ⟨h3, h4, h5⟩
   · refine ⟨-1, Ev.bind h2 ?_, .inl (by omega)⟩
     simp only [if_pos h3]; exact Ev.now _
   · refine ⟨s, Ev.bind h2 ?_, .inr ⟨h3, by omega, by omega, fun f hf => ?_⟩⟩
     · simp only [if_neg (show ¬ s < 0 by omega)]; exact Ev.now _
     · have := h5 f (by simpa using hf)
       omega
def conv (t : S95) : S80 := ⟨t.f0, t.f1⟩
theorem ev_toTerm (t : S95) (h : t.f0.length ≤ 1000000000000) : Ev (fun k => laws_toTerm.f k t.f0 t.f1) (t.f0, t.f1) := by
 unfold laws_toTerm.f
 exact Ev.bind (ev_toI t.f0 h) (Ev.now _)
theorem take_succ_U (l : List S95) (k : Nat) (h : k < l.length) : (l.map conv).take (k + 1) = (l.map conv).take k ++ [conv (rd_T95 l (k : Int))] := by
 rw [List.take_succ_eq_append_getElem (by simpa using h)]
 simp [rd_T95, List.getD_eq_getElem?_getD, List.getElem?_eq_getElem h]
theorem toTermS_l0 (l : List S95) (hn : l.length ≤ 1000000000) (hf : ∀ t ∈ l, t.f0.length ≤ 1000000000000) : ∀ (d i : Nat), i + d = l.length → Ev (fun k => laws_toTermS.l0 k l ((l.map conv).take i ++ List.replicate d z80) (i : Int)) (l.map conv) := by
 intro d
 induction d with
 | zero =>
  intro i hi
  refine Ev.step (fun k => by rw [laws_toTermS.l0]) ?_
  simp only [if_neg (show ¬ ((i : Int) < (l.length : Int)) by omega)]
  exact ev_val (by rw [List.take_of_length_le (by simp; omega)]; simp)
 | succ d ih =>
  intro i hi
  refine Ev.step (fun k => by rw [laws_toTermS.l0]) ?_
  have hl : ((l.map conv).take i).length = i := by simp; omega
  have hs : ((l.map conv).take i ++ List.replicate (d + 1) z80).length = l.length := by simp; omega
  simp only [if_pos (show ((i : Int) < (l.length : Int)) by omega), if_pos (show (0 : Int) ≤ (i : Int) by omega), hs, Int.toNat_natCast]
  refine Ev.bind (ev_toTerm _ (hf _ (rdU_mem l i (by omega)))) ?_
  simp only [fill_set z80 _ ((l.map conv).take i) i d hl, wr1 i l.length (by omega) (by omega)]
  have e := take_succ_U l i (by omega)
  have h := ih (i + 1) (by omega)
  rw [e] at h
  exact h
theorem ev_toSum (p : Int) (l : List S95) (hn : l.length ≤ 1000000000) (hf : ∀ t ∈ l, t.f0.length ≤ 1000000000000) : Ev (fun k => laws_toSum.f k p l) (p, l.map conv) := by
 unfold laws_toSum.f laws_toTermS.f
 simp only [if_pos (show (0 : Int) ≤ (l.length : Int) by omega), Int.toNat_natCast, if_pos (show l.length ≤ 8796093022208 by omega)]
 have := toTermS_l0 l hn hf l.length 0 (by omega)
 refine Ev.bind ?_ (Ev.now _)
 simpa using this
theorem rdV_mem (l : List S80) (k : Nat) (h : k < l.length) : rd_T80 l (k : Int) ∈ l := by
 simp only [rd_T80, Int.toNat_natCast, List.getD_eq_getElem?_getD, List.getElem?_eq_getElem h, Option.getD_some]
 exact List.getElem_mem h
theorem ev_eqTerm (t : S80) (h : t.f0.length ≤ 1000000000000) : Ev (fun k => laws_eqTerm.f k t.f0 t.f1 t.f0 t.f1) true := by
 unfold laws_eqTerm.f
 refine Ev.bind (ev_eqI t.f0 h) ?_
 simp only [if_true]
 exact Ev.now _
theorem eqTermS_l0 (l : List S80) (hn : l.length ≤ 1000000000000) (hf : ∀ t ∈ l, t.f0.length ≤ 1000000000000) : ∀ (d i : Nat), i + d = l.length → Ev (fun k => laws_eqTermS.l0 k l l (i : Int)) true := by
 intro d
 induction d with
 | zero =>
  intro i hi
  refine Ev.step (fun k => by rw [laws_eqTermS.l0]) ?_
  simp only [if_neg (show ¬ ((i : Int) < (l.length : Int)) by omega)]
  exact Ev.now _
 | succ d ih =>
  intro i hi
  refine Ev.step (fun k => by rw [laws_eqTermS.l0]) ?_
  simp only [if_pos (show ((i : Int) < (l.length : Int)) by omega), if_pos (show (0 : Int) ≤ (i : Int) by omega), wr1 i l.length (by omega) (by omega)]
  refine Ev.bind (ev_eqTerm _ (hf _ (rdV_mem l i (by omega)))) ?_
  simp only [if_true]
  exact ih (i + 1) (by omega)
theorem ev_eqSum (p : Int) (l : List S80) (hn : l.length ≤ 1000000000000) (hf : ∀ t ∈ l, t.f0.length ≤ 1000000000000) : Ev (fun k => laws_eqSum.f k p l p l) true := by
 unfold laws_eqSum.f laws_eqTermS.f
 simp only [if_true]
 refine Ev.bind (eqTermS_l0 l hn hf l.length 0 (by omega)) ?_
 simp only [if_true]
 exact Ev.now _
end Go.Proofs.Ytibahnmljafkdaa.P
