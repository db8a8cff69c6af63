/- What the reference's functions on words come to, and the program's: plain mathematics. -/
import Derived.Test.YtibahnmljafkdaaCaPx2
import Derived.Test.YtibahnmljafkdaaCaPx7
namespace Go.Proofs.Ytibahnmljafkdaa.P
open Go.RowKit Go.Proofs.YtibahnmljafkdaaW.PrintWords Go.Proofs.YtibahnmljafkdaaW.PrintLast
set_option linter.unusedVariables false
set_option linter.unusedSimpArgs false
theorem ev_val {α : Type} {r r' : α} (h : r' = r) : Ev (fun _ => some r') r := by subst h; exact Ev.now _
theorem wr1 (i n : Nat) (h : i < n) (hn : n ≤ 1000000000000000) : wrap64 ((i : Int) + 1) = ((i + 1 : Nat) : Int) := by unfold wrap64; omega
theorem rd_drop (l : List Int) (i : Nat) (h : i < l.length) : l.drop i = rd l (i : Int) :: l.drop (i + 1) := by
 rw [List.drop_eq_getElem_cons h]
 simp [rd, List.getD_eq_getElem?_getD, List.getElem?_eq_getElem h]
theorem same_l0 (a b : List Int) (hl : a.length = b.length) (hn : a.length ≤ 1000000000000000) : ∀ (d i : Nat), i + d = a.length → Ev (fun k => spec_l01Same.l0 k a b (i : Int)) (decide (a.drop i = b.drop i)) := by
 intro d
 induction d with
 | zero =>
  intro i hi
  refine Ev.step (fun k => by rw [spec_l01Same.l0]) ?_
  simp only [if_neg (show ¬ ((i : Int) < (a.length : Int)) by omega)]
  refine ev_val ?_
  rw [List.drop_of_length_le (by omega), List.drop_of_length_le (by omega)]
  simp
 | succ d ih =>
  intro i hi
  refine Ev.step (fun k => by rw [spec_l01Same.l0]) ?_
  simp only [if_pos (show (i : Int) < (a.length : Int) by omega), if_pos (show (0 : Int) ≤ (i : Int) by omega), if_pos (show (i : Int) < (b.length : Int) by omega)]
  rw [rd_drop a i (by omega), rd_drop b i (by omega)]
  by_cases he : rd a (i : Int) = rd b (i : Int)
  · simp only [if_pos he, wr1 i a.length (by omega) hn]
    have := ih (i + 1) (by omega)
    simpa [he] using this
  · simp only [if_neg he]
    refine ev_val ?_
    simp [he]
theorem ev_same (a b : List Int) (hn : a.length ≤ 1000000000000000) : Ev (fun k => spec_l01Same.f k a b) (decide (a = b)) := by
 unfold spec_l01Same.f
 by_cases hl : a.length = b.length
 · simp only [if_pos (show (a.length : Int) = (b.length : Int) by omega)]
   have := same_l0 a b hl hn a.length 0 (by omega)
   simpa using this
 · simp only [if_neg (show ¬ (a.length : Int) = (b.length : Int) by omega)]
   refine ev_val ?_
   have : a ≠ b := fun h => hl (by rw [h])
   simp [this]
theorem equal_l0 (a b : List Int) (hl : a.length = b.length) (hn : a.length ≤ 1000000000000000) : ∀ (d i : Nat), i + d = a.length → Ev (fun k => slices_Equal_int64_int64.l0 k a b (a.length : Int) (i : Int)) (decide (a.drop i = b.drop i)) := by
 intro d
 induction d with
 | zero =>
  intro i hi
  refine Ev.step (fun k => by rw [slices_Equal_int64_int64.l0]) ?_
  simp only [if_neg (show ¬ ((i : Int) < (a.length : Int)) by omega)]
  refine ev_val ?_
  rw [List.drop_of_length_le (by omega), List.drop_of_length_le (by omega)]
  simp
 | succ d ih =>
  intro i hi
  refine Ev.step (fun k => by rw [slices_Equal_int64_int64.l0]) ?_
  simp only [if_pos (show (i : Int) < (a.length : Int) by omega), if_pos (show (0 : Int) ≤ (i : Int) by omega), if_pos (show (i : Int) < (b.length : Int) by omega)]
  rw [rd_drop a i (by omega), rd_drop b i (by omega)]
  by_cases he : rd a (i : Int) = rd b (i : Int)
  · simp only [if_pos he, wr1 i a.length (by omega) hn]
    have := ih (i + 1) (by omega)
    simpa [he] using this
  · simp only [if_neg he]
    refine ev_val ?_
    simp [he]
theorem ev_equal (a b : List Int) (hn : a.length ≤ 1000000000000000) : Ev (fun k => slices_Equal_int64_int64.f k a b) (decide (a = b)) := by
 unfold slices_Equal_int64_int64.f
 by_cases hl : a.length = b.length
 · simp only [if_pos (show (a.length : Int) = (b.length : Int) by omega)]
   have := equal_l0 a b hl hn a.length 0 (by omega)
   simpa using this
 · simp only [if_neg (show ¬ (a.length : Int) = (b.length : Int) by omega)]
   refine ev_val ?_
   have : a ≠ b := fun h => hl (by rw [h])
   simp [this]
theorem twice_l1 (l : List Int) (hn : l.length ≤ 1000000000000000) (j : Nat) (hj : j < l.length) (r : Bool) (hr : (l.count (rd l (j : Int)) : Int) = 2 → Ev (fun k => spec_l01Twice.l0 k l ((j + 1 : Nat) : Int)) r) (hr' : ¬ (l.count (rd l (j : Int)) : Int) = 2 → r = false) :
 ∀ (d i : Nat), i + d = l.length → Ev (fun k => spec_l01Twice.l1 k l (j : Int) (((l.take i).count (rd l (j : Int)) : Nat) : Int) (i : Int)) r := by
 intro d
 induction d with
 | zero =>
  intro i hi
  refine Ev.step (fun k => by rw [spec_l01Twice.l1]) ?_
  simp only [if_neg (show ¬ ((i : Int) < (l.length : Int)) by omega)]
  rw [List.take_of_length_le (by omega)]
  by_cases h2 : (l.count (rd l (j : Int)) : Int) = 2
  · simp only [if_pos h2, wr1 j l.length hj hn]; exact hr h2
  · simp only [if_neg h2]; exact ev_val (hr' h2).symm
 | succ d ih =>
  intro i hi
  have hc : (l.take i).count (rd l (j : Int)) ≤ i := Nat.le_trans List.count_le_length (by simp; omega)
  have hs : (l.take (i + 1)).count (rd l (j : Int)) = (l.take i).count (rd l (j : Int)) + if rd l (i : Int) = rd l (j : Int) then 1 else 0 := by
   rw [take_succ_rd l i (by omega), List.count_append, List.count_singleton]
   by_cases he : rd l (i : Int) = rd l (j : Int) <;> simp [he]
  refine Ev.step (fun k => by rw [spec_l01Twice.l1]) ?_
  simp only [if_pos (show (i : Int) < (l.length : Int) by omega), if_pos (show (0 : Int) ≤ (i : Int) by omega), if_pos (show (0 : Int) ≤ (j : Int) by omega), if_pos (show (j : Int) < (l.length : Int) by omega), wr1 i l.length (by omega) hn]
  by_cases he : rd l (i : Int) = rd l (j : Int)
  · simp only [if_pos he, wr1 ((l.take i).count (rd l (j : Int))) l.length (by omega) hn]
    have := ih (i + 1) (by omega)
    rw [hs, if_pos he] at this
    exact this
  · simp only [if_neg he]
    have := ih (i + 1) (by omega)
    rw [hs, if_neg he] at this
    exact this
theorem twice_l0 (l : List Int) (hn : l.length ≤ 1000000000000000) : ∀ (d i : Nat), i + d = l.length → Ev (fun k => spec_l01Twice.l0 k l (i : Int)) ((l.drop i).all fun x => decide (l.count x = 2)) := by
 intro d
 induction d with
 | zero =>
  intro i hi
  refine Ev.step (fun k => by rw [spec_l01Twice.l0]) ?_
  simp only [if_neg (show ¬ ((i : Int) < (l.length : Int)) by omega)]
  refine ev_val ?_
  rw [List.drop_of_length_le (by omega)]
  rfl
 | succ d ih =>
  intro i hi
  refine Ev.step (fun k => by rw [spec_l01Twice.l0]) ?_
  simp only [if_pos (show (i : Int) < (l.length : Int) by omega)]
  rw [rd_drop l i (by omega)]
  have h1 := twice_l1 l hn i (by omega) ((rd l (i : Int) :: l.drop (i + 1)).all fun x => decide (l.count x = 2)) (fun h => by
   have h2 : l.count (rd l (i : Int)) = 2 := by omega
   have := ih (i + 1) (by omega)
   simpa [h2] using this) (fun h => by
   have h2 : ¬ l.count (rd l (i : Int)) = 2 := by omega
   simp [h2]) l.length 0 (by omega)
  simpa using h1
theorem ev_twice (l : List Int) (hn : l.length ≤ 1000000000000000) : Ev (fun k => spec_l01Twice.f k l) (twiceB l) := by
 have := twice_l0 l hn l.length 0 (by omega)
 simpa [twiceB, spec_l01Twice.f] using this
theorem mets_nodup : ∀ (l met : List Int), met.Nodup → (mets met l).Nodup
 | [], met, h => h
 | x :: l, met, h => by
  simp only [mets]
  split
  · exact mets_nodup l met h
  · rename_i hx
    exact mets_nodup l _ (by
     rw [List.nodup_append]
     exact ⟨h, by simp, fun a ha b hb => by simp at hb; subst hb; intro e; subst e; exact hx ha⟩)
theorem normal_l1 (l met out : List Int) (hn : l.length ≤ 1000000000000000) (hml : met.length ≤ 1000000000000) (hnd : met.Nodup) (j : Nat) (hj : j < l.length) (r : List Int)
 (hyes : rd l (j : Int) ∈ met → Ev (fun k => (if out.length < 17592186044416 then spec_l01Normal.l0 k l met (out ++ [(met.idxOf (rd l (j : Int)) : Int)]) (wrap64 ((j : Int) + 1)) else none)) r)
 (hno : rd l (j : Int) ∉ met → Ev (fun k => (if out.length < 17592186044416 then spec_l01Normal.l0 k l (met ++ [rd l (j : Int)]) (out ++ [(met.length : Int)]) (wrap64 ((j : Int) + 1)) else none)) r) :
 ∀ (d i : Nat), i + d = met.length → Ev (fun k => spec_l01Normal.l1 k l met out (j : Int) (if rd l (j : Int) ∈ met.take i then (met.idxOf (rd l (j : Int)) : Int) else -1) (i : Int)) r := by
 intro d
 induction d with
 | zero =>
  intro i hi
  refine Ev.step (fun k => by rw [spec_l01Normal.l1]) ?_
  simp only [if_neg (show ¬ ((i : Int) < (met.length : Int)) by omega)]
  rw [List.take_of_length_le (by omega)]
  by_cases hm : rd l (j : Int) ∈ met
  · simp only [if_pos hm, if_neg (show ¬ ((met.idxOf (rd l (j : Int)) : Int) < 0) by omega)]
    exact hyes hm
  · simp only [if_neg hm, if_pos (show (-1 : Int) < 0 by omega), if_pos (show (0 : Int) ≤ (j : Int) by omega), if_pos (show (j : Int) < (l.length : Int) by omega), if_pos (show met.length < 17592186044416 by omega)]
    exact hno hm
 | succ d ih =>
  intro i hi
  refine Ev.step (fun k => by rw [spec_l01Normal.l1]) ?_
  simp only [if_pos (show (i : Int) < (met.length : Int) by omega), if_pos (show (0 : Int) ≤ (i : Int) by omega), if_pos (show (0 : Int) ≤ (j : Int) by omega), if_pos (show (j : Int) < (l.length : Int) by omega), wr1 i met.length (by omega) (by omega)]
  have hs := take_succ_rd met i (by omega)
  have hih := ih (i + 1) (by omega)
  rw [hs] at hih
  by_cases he : rd met (i : Int) = rd l (j : Int)
  · simp only [if_pos he]
    have hidx : met.idxOf (rd l (j : Int)) = i := by
     rw [← he]
     have hi2 : i < met.length := by omega
     have : rd met (i : Int) = met[i] := by simp [rd, List.getD_eq_getElem?_getD, List.getElem?_eq_getElem hi2]
     rw [this]
     exact List.Nodup.idxOf_getElem hnd i hi2
    rw [if_pos (by rw [← he]; simp), hidx] at hih
    exact hih
  · simp only [if_neg he]
    have : (rd l (j : Int) ∈ met.take i ++ [rd met (i : Int)]) ↔ rd l (j : Int) ∈ met.take i := by simp [Ne.symm he]
    simp only [this] at hih
    exact hih
theorem normal_l0 (l : List Int) (hn : l.length ≤ 1000000000) : ∀ (d i : Nat), i + d = l.length → Ev (fun k => spec_l01Normal.l0 k l (mets [] (l.take i)) (nrm (l.take i)) (i : Int)) (nrm l) := by
 intro d
 induction d with
 | zero =>
  intro i hi
  refine Ev.step (fun k => by rw [spec_l01Normal.l0]) ?_
  simp only [if_neg (show ¬ ((i : Int) < (l.length : Int)) by omega)]
  rw [List.take_of_length_le (by omega)]
  exact ev_val rfl
 | succ d ih =>
  intro i hi
  refine Ev.step (fun k => by rw [spec_l01Normal.l0]) ?_
  simp only [if_pos (show (i : Int) < (l.length : Int) by omega)]
  have hml := mets_len (l.take i) []
  simp only [List.length_nil, List.length_take] at hml
  have hol := nrm_length (l.take i)
  have hs := take_succ_rd l i (by omega)
  have hm1 := mets_snoc (l.take i) (rd l (i : Int)) []
  have hn1 : nrm (l.take i ++ [rd l (i : Int)]) = nrm (l.take i) ++ [((mets [] (l.take i)).idxOf (rd l (i : Int)) : Int)] := nrmFrom_snoc (l.take i) (rd l (i : Int)) []
  have hih := ih (i + 1) (by omega)
  rw [hs, hm1, hn1] at hih
  have h1 := normal_l1 l (mets [] (l.take i)) (nrm (l.take i)) (by omega) (by omega) (mets_nodup _ _ (by simp)) i (by omega) (nrm l) (fun hmem => by
   simp only [if_pos (show (nrm (l.take i)).length < 17592186044416 by rw [hol]; simp; omega), wr1 i l.length (by omega) (by omega)]
   rw [if_pos hmem] at hih
   exact hih) (fun hmem => by
   simp only [if_pos (show (nrm (l.take i)).length < 17592186044416 by rw [hol]; simp; omega), wr1 i l.length (by omega) (by omega)]
   rw [if_neg hmem, List.idxOf_eq_length hmem] at hih
   exact hih) (mets [] (l.take i)).length 0 (by omega)
  simpa using h1
theorem ev_normal (l : List Int) (hn : l.length ≤ 1000000000) : Ev (fun k => spec_l01Normal.f k l) (nrm l) := by
 have := normal_l0 l hn l.length 0 (by omega)
 simpa [spec_l01Normal.f, mets, nrm, nrmFrom] using this
def isWordB (l : List Int) : Bool := decide (l.length ≤ 12) && twiceB l && decide (nrm l = l)
theorem ev_is (l : List Int) : Ev (fun k => spec_l01Is.f k l) (isWordB l) := by
 unfold spec_l01Is.f isWordB
 by_cases hl : l.length ≤ 12
 · simp only [if_pos (show (l.length : Int) ≤ 12 by omega), hl, decide_true, Bool.true_and]
   refine Ev.bind (ev_twice l (by omega)) ?_
   cases twiceB l with
   | false => simp only [Bool.false_eq_true, if_false]; exact ev_val (by simp)
   | true =>
    simp only [if_true]
    refine Ev.bind (ev_normal l (by omega)) ?_
    exact Ev.bind (ev_same (nrm l) l (by rw [nrm_length]; omega)) (ev_val (by simp))
 · simp only [if_neg (show ¬ (l.length : Int) ≤ 12 by omega)]
   exact ev_val (by simp [hl])
theorem ev_isWord (l : List Int) : Ev (fun k => impl_IsWord.f k l) (isWordB l) := by
 unfold impl_IsWord.f isWordB impl_twice.f impl_normal.f
 by_cases hl : l.length ≤ 12
 · simp only [if_pos (show (l.length : Int) ≤ 12 by omega), hl, decide_true, Bool.true_and, Option.bind_some]
   cases twiceB l with
   | false => simp only [Bool.false_eq_true, if_false]; exact ev_val (by simp)
   | true =>
    simp only [if_true, if_pos (show l.length ≤ 1000000 by omega), Option.bind_some]
    exact Ev.bind (ev_equal (nrm l) l (by rw [nrm_length]; omega)) (ev_val (by simp))
 · simp only [if_neg (show ¬ (l.length : Int) ≤ 12 by omega)]
   exact ev_val (by simp [hl])
end Go.Proofs.Ytibahnmljafkdaa.P
