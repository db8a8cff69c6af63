/- What the reference's functions on sums come to, and the program's: plain mathematics. -/
import Derived.Test.YtibahnmljafkdaaCaPureW
import Derived.Test.YtibahnmljafkdaaCaPx3
import Derived.Test.YtibahnmljafkdaaCaPx9
namespace Go.Proofs.Ytibahnmljafkdaa.P
open Go.RowKit Go.Proofs.YtibahnmljafkdaaW.PrintWords Go.Proofs.YtibahnmljafkdaaW.PrintLast
set_option linter.unusedVariables false
set_option linter.unusedSimpArgs false
def primeB (p : Int) : Bool := p == 2 || p == 3 || p == 5 || p == 7 || p == 11 || p == 13
theorem ev_prime (p : Int) : spec_l03Prime.f p = some (primeB p) := by
 unfold spec_l03Prime.f primeB
 by_cases h2 : p = 2
 · simp [h2]
 by_cases h3 : p = 3
 · simp [h3]
 by_cases h5 : p = 5
 · simp [h5]
 by_cases h7 : p = 7
 · simp [h7]
 by_cases h11 : p = 11
 · simp [h11]
 simp [h2, h3, h5, h7, h11]
theorem index_l0 (l : List Int) (x : Int) (hn : l.length ≤ 1000000000000000) : ∀ (d i : Nat), i + d = l.length → Ev (fun k => slices_Index_int64_int64.l0 k l x (l.length : Int) (i : Int)) (if x ∈ l.drop i then ((i + (l.drop i).idxOf x : Nat) : Int) else -1) := by
 intro d
 induction d with
 | zero =>
  intro i hi
  refine Ev.step (fun k => by rw [slices_Index_int64_int64.l0]) ?_
  simp only [if_neg (show ¬ ((i : Int) < (l.length : Int)) by omega)]
  refine ev_val ?_
  rw [List.drop_of_length_le (by omega)]
  simp
 | succ d ih =>
  intro i hi
  refine Ev.step (fun k => by rw [slices_Index_int64_int64.l0]) ?_
  simp only [if_pos (show (i : Int) < (l.length : Int) by omega), if_pos (show (0 : Int) ≤ (i : Int) by omega)]
  rw [rd_drop l i (by omega)]
  by_cases he : x = rd l (i : Int)
  · simp only [if_pos he]
    refine ev_val ?_
    rw [he]
    simp
  · simp only [if_neg he, wr1 i l.length (by omega) hn]
    have h1 := ih (i + 1) (by omega)
    have hb : (rd l (i : Int) == x) = false := by simpa using Ne.symm he
    by_cases hm : x ∈ l.drop (i + 1)
    · rw [if_pos hm] at h1
      rw [if_pos (List.mem_cons_of_mem _ hm), List.idxOf_cons, hb]
      have e1 : i + 1 + List.idxOf x (List.drop (i + 1) l) = i + (List.idxOf x (List.drop (i + 1) l) + 1) := by omega
      rw [e1] at h1
      exact h1
    · rw [if_neg hm] at h1
      rw [if_neg (by simp [he]; simpa using hm)]
      exact h1
theorem ev_index (l : List Int) (x : Int) (hn : l.length ≤ 1000000000000000) : Ev (fun k => slices_Index_int64_int64.f k l x) (if x ∈ l then (l.idxOf x : Int) else -1) := by
 have := index_l0 l x hn l.length 0 (by omega)
 simpa [slices_Index_int64_int64.f] using this
theorem ev_contains (l : List Int) (x : Int) (hn : l.length ≤ 1000000000000000) : Ev (fun k => slices_Contains_int64_int64.f k l x) (decide (x ∈ l)) := by
 unfold slices_Contains_int64_int64.f
 refine Ev.bind (ev_index l x hn) (ev_val ?_)
 by_cases h : x ∈ l
 · simp [h]
 · simp [h]
theorem ev_isPrime (p : Int) : Ev (fun k => impl_isPrime.f k p) (primeB p) := by
 unfold impl_isPrime.f
 refine Ev.bind (ev_contains _ p (by simp)) (ev_val ?_)
 simp only [primeB, List.mem_cons, List.not_mem_nil, or_false]
 simp only [Bool.decide_or, Bool.or_assoc]
 rfl
def cmpL : List Int → List Int → Int
 | [], [] => 0
 | [], _ :: _ => -1
 | _ :: _, [] => 1
 | x :: a, y :: b => if x < y then -1 else if y < x then 1 else cmpL a b
def wordCmp (a b : List Int) : Int := if a.length < b.length then -1 else if b.length < a.length then 1 else cmpL a b
def wlt (a b : List Int) : Bool := decide (wordCmp a b < 0)
theorem before_l0 (a b : List Int) (hl : a.length = b.length) (hn : a.length ≤ 1000000000000000) : ∀ (d i : Nat), i + d = a.length → Ev (fun k => spec_l01Before.l0 k a b (i : Int)) (decide (cmpL (a.drop i) (b.drop i) < 0)) := by
 intro d
 induction d with
 | zero =>
  intro i hi
  refine Ev.step (fun k => by rw [spec_l01Before.l0]) ?_
  simp only [if_neg (show ¬ ((i : Int) < (a.length : Int)) by omega)]
  refine ev_val ?_
  rw [List.drop_of_length_le (by omega), List.drop_of_length_le (by omega)]
  simp [cmpL]
 | succ d ih =>
  intro i hi
  refine Ev.step (fun k => by rw [spec_l01Before.l0]) ?_
  simp only [if_pos (show (i : Int) < (a.length : Int) by omega), if_pos (show (0 : Int) ≤ (i : Int) by omega), if_pos (show (i : Int) < (b.length : Int) by omega)]
  rw [rd_drop a i (by omega), rd_drop b i (by omega)]
  simp only [cmpL]
  by_cases he : rd a (i : Int) = rd b (i : Int)
  · simp only [if_pos he, wr1 i a.length (by omega) hn]
    have := ih (i + 1) (by omega)
    simpa [he] using this
  · simp only [if_neg he]
    refine ev_val ?_
    by_cases h1 : rd a (i : Int) < rd b (i : Int)
    · simp [h1]
    · have h2 : rd b (i : Int) < rd a (i : Int) := by omega
      simp [h1, h2]
theorem ev_before (a b : List Int) (hn : a.length ≤ 1000000000000000) : Ev (fun k => spec_l01Before.f k a b) (wlt a b) := by
 unfold spec_l01Before.f wlt wordCmp
 by_cases hl : a.length = b.length
 · simp only [if_pos (show (a.length : Int) = (b.length : Int) by omega), hl, Nat.lt_irrefl, if_false]
   have := before_l0 a b hl hn a.length 0 (by omega)
   simpa using this
 · simp only [if_neg (show ¬ (a.length : Int) = (b.length : Int) by omega)]
   refine ev_val ?_
   by_cases h1 : a.length < b.length
   · simp [h1]
   · have h2 : b.length < a.length := by omega
     simp [h1, h2]
theorem compare64 (x y : Int) : cmp_Compare_int64.f x y = some (if x < y then -1 else if y < x then 1 else 0) := by
 simp only [cmp_Compare_int64.f, cmp_isNaN_int64.f, Option.bind_some, bne_self_eq_false, Bool.false_eq_true, if_false]
 by_cases h1 : x < y
 · simp [h1]
 · by_cases h2 : y < x
   · simp [h1, h2]
   · simp [h1, h2]
theorem compareInt (x y : Int) : cmp_Compare_int.f x y = some (if x < y then -1 else if y < x then 1 else 0) := by
 simp only [cmp_Compare_int.f, cmp_isNaN_int.f, Option.bind_some, bne_self_eq_false, Bool.false_eq_true, if_false]
 by_cases h1 : x < y
 · simp [h1]
 · by_cases h2 : y < x
   · simp [h1, h2]
   · simp [h1, h2]
theorem compare_l0 (a b : List Int) (hn : a.length ≤ 1000000000000000) : ∀ (d i : Nat), i + d = a.length → i ≤ b.length → Ev (fun k => slices_Compare_int64_int64.l0 k a b a (a.length : Int) (i : Int)) (cmpL (a.drop i) (b.drop i)) := by
 intro d
 induction d with
 | zero =>
  intro i hi hb
  refine Ev.step (fun k => by rw [slices_Compare_int64_int64.l0]) ?_
  simp only [if_neg (show ¬ ((i : Int) < (a.length : Int)) by omega)]
  rw [List.drop_of_length_le (show a.length ≤ i by omega)]
  by_cases h1 : a.length < b.length
  · simp only [if_pos (show (a.length : Int) < (b.length : Int) by omega)]
    refine ev_val ?_
    rw [rd_drop b i (by omega)]
    rfl
  · simp only [if_neg (show ¬ (a.length : Int) < (b.length : Int) by omega)]
    refine ev_val ?_
    rw [List.drop_of_length_le (by omega)]
    rfl
 | succ d ih =>
  intro i hi hb
  refine Ev.step (fun k => by rw [slices_Compare_int64_int64.l0]) ?_
  simp only [if_pos (show (i : Int) < (a.length : Int) by omega), if_pos (show (0 : Int) ≤ (i : Int) by omega)]
  rw [rd_drop a i (by omega)]
  by_cases h1 : i < b.length
  · simp only [if_neg (show ¬ (i : Int) ≥ (b.length : Int) by omega), if_pos (show (i : Int) < (b.length : Int) by omega), compare64, Option.bind_some, wr1 i a.length (by omega) hn]
    rw [rd_drop b i h1]
    simp only [cmpL]
    have h2 := ih (i + 1) (by omega) (by omega)
    by_cases c1 : rd a (i : Int) < rd b (i : Int)
    · simp only [if_pos c1]; exact ev_val rfl
    · by_cases c2 : rd b (i : Int) < rd a (i : Int)
      · simp only [if_neg c1, if_pos c2]; exact ev_val rfl
      · simp only [if_neg c1, if_neg c2, if_true]; exact h2
  · simp only [if_pos (show (i : Int) ≥ (b.length : Int) by omega)]
    refine ev_val ?_
    rw [List.drop_of_length_le (show b.length ≤ i by omega)]
    rfl
theorem ev_compare (a b : List Int) (hn : a.length ≤ 1000000000000000) : Ev (fun k => slices_Compare_int64_int64.f k a b) (cmpL a b) := by
 have := compare_l0 a b hn a.length 0 (by omega) (by omega)
 unfold slices_Compare_int64_int64.f
 simpa using this
theorem or_two (x y : Int) : Ev (fun k => cmp_Or_int.f k [x, y]) (if x = 0 then y else x) := by
 unfold cmp_Or_int.f
 refine Ev.step (fun k => by rw [cmp_Or_int.l0]) ?_
 simp only [List.length_cons, List.length_nil, rd, List.getD_cons_zero, Int.toNat_zero]
 by_cases hx : x = 0
 · simp [hx]
   refine Ev.step (fun k => by rw [cmp_Or_int.l0]) ?_
   simp only [List.length_cons, List.length_nil, rd, show wrap64 1 = 1 from by unfold wrap64; omega, show (1 : Int).toNat = 1 from rfl, List.getD_cons_succ, List.getD_cons_zero]
   by_cases hy : y = 0
   · simp [hy]
     refine Ev.step (fun k => by rw [cmp_Or_int.l0]) ?_
     have w2 : wrap64 2 = 2 := by unfold wrap64; omega
     simp [w2]
     exact Ev.now _
   · simp [hy]
     exact Ev.now _
 · simp [hx]
   exact Ev.now _
theorem ev_wordOrder (a b : List Int) (hn : a.length ≤ 1000000000000000) : Ev (fun k => impl_wordOrder.f k a b) (wordCmp a b) := by
 unfold impl_wordOrder.f
 simp only [compareInt, Option.bind_some]
 refine Ev.bind (ev_compare a b hn) ?_
 refine Ev.bind (or_two _ _) (ev_val ?_)
 unfold wordCmp
 by_cases h1 : a.length < b.length
 · have : (a.length : Int) < (b.length : Int) := by omega
   simp [h1, this]
 · have h1' : ¬ (a.length : Int) < (b.length : Int) := by omega
   by_cases h2 : b.length < a.length
   · have : (b.length : Int) < (a.length : Int) := by omega
     simp [h1, h1', h2, this]
   · have h2' : ¬ (b.length : Int) < (a.length : Int) := by omega
     simp [h1, h1', h2, h2']
def termsOk (p : Int) : Option (List Int) → List S80 → Bool
 | _, [] => true
 | prev, t :: r => isWordB t.f0 && (decide (1 ≤ t.f1) && decide (t.f1 ≤ p - 1)) && (match prev with | none => true | some w => wlt w t.f0) && termsOk p (some t.f0) r
def isSumB (p : Int) (ts : List S80) : Bool := primeB p && decide (ts.length ≤ 200) && termsOk p none ts
theorem primeB_range {p : Int} (h : primeB p = true) : 2 ≤ p ∧ p ≤ 13 := by
 simp only [primeB, Bool.or_eq_true, beq_iff_eq] at h
 omega
theorem rdT_drop (l : List S80) (i : Nat) (h : i < l.length) : l.drop i = rd_T80 l (i : Int) :: l.drop (i + 1) := by
 rw [List.drop_eq_getElem_cons h]
 simp [rd_T80, List.getD_eq_getElem?_getD, List.getElem?_eq_getElem h]
theorem wrm1 (i n : Nat) (h0 : 0 < i) (h : i < n) (hn : n ≤ 1000000000000000) : wrap64 ((i : Int) - 1) = ((i - 1 : Nat) : Int) := by unfold wrap64; omega
def prevT (ts : List S80) (i : Nat) : Option (List Int) := if i = 0 then none else some (rd_T80 ts ((i - 1 : Nat) : Int)).f0
theorem isWordB_len {l : List Int} (h : isWordB l = true) : l.length ≤ 12 := by
 simp [isWordB] at h; exact h.1.1
theorem specIs_l0 (p : Int) (ts : List S80) (hp : primeB p = true) (hn : ts.length ≤ 200) : ∀ (d i : Nat), i + d = ts.length → (∀ j, j < i → isWordB (rd_T80 ts (j : Int)).f0 = true) → Ev (fun k => spec_l03Is.l0 k (i : Int) p ts) (termsOk p (prevT ts i) (ts.drop i)) := by
 have hpr := primeB_range hp
 have hwp : wrap64 (p - 1) = p - 1 := by unfold wrap64; omega
 intro d
 induction d with
 | zero =>
  intro i hi hw
  refine Ev.step (fun k => by rw [spec_l03Is.l0]) ?_
  simp only [if_neg (show ¬ ((i : Int) < (ts.length : Int)) by omega)]
  refine ev_val ?_
  rw [List.drop_of_length_le (by omega)]
  rfl
 | succ d ih =>
  intro i hi hw
  refine Ev.step (fun k => by rw [spec_l03Is.l0]) ?_
  simp only [if_pos (show (i : Int) < (ts.length : Int) by omega), if_pos (show (0 : Int) ≤ (i : Int) by omega)]
  rw [rdT_drop ts i (by omega)]
  simp only [termsOk]
  refine Ev.bind (ev_is _) ?_
  cases hwd : isWordB (rd_T80 ts (i : Int)).f0 with
  | false => simp only [Bool.false_eq_true, if_false, Bool.false_and]; exact Ev.now _
  | true =>
   simp only [if_true, Bool.true_and, hwp, spec_l01In.f]
   by_cases h1 : (1 : Int) ≤ (rd_T80 ts (i : Int)).f1
   · simp only [if_pos (show (rd_T80 ts (i : Int)).f1 ≥ 1 from h1), Option.bind_some, h1, decide_true, Bool.true_and]
     by_cases h2 : (rd_T80 ts (i : Int)).f1 ≤ p - 1
     · simp only [h2, decide_true, if_true, Bool.true_and, Option.bind_some]
       have hih := ih (i + 1) (by omega) (fun j hj => by
        by_cases hji : j = i
        · subst hji; exact hwd
        · exact hw j (by omega))
       have hpv : prevT ts (i + 1) = some (rd_T80 ts (i : Int)).f0 := by simp [prevT]
       rw [hpv] at hih
       by_cases h0 : i = 0
       · subst h0
         simp only [prevT, if_true, Bool.true_and]
         simp only [if_neg (show ¬ ((0 : Nat) : Int) > 0 by omega), wr1 0 ts.length (by omega) (by omega)]
         exact hih
       · simp only [if_pos (show (i : Int) > 0 by omega), wrm1 i ts.length (by omega) (by omega) (by omega), if_pos (show (0 : Int) ≤ ((i - 1 : Nat) : Int) by omega), if_pos (show ((i - 1 : Nat) : Int) < (ts.length : Int) by omega)]
         have hlen := isWordB_len (hw (i - 1) (by omega))
         refine Ev.bind (ev_before _ _ (by omega)) ?_
         have hpi : prevT ts i = some (rd_T80 ts ((i - 1 : Nat) : Int)).f0 := by simp [prevT, h0]
         simp only [hpi]
         cases wlt (rd_T80 ts ((i - 1 : Nat) : Int)).f0 (rd_T80 ts (i : Int)).f0 with
         | false => simp only [Bool.false_eq_true, if_false, Bool.false_and]; exact Ev.now _
         | true => simp only [if_true, Bool.true_and, wr1 i ts.length (by omega) (by omega)]; exact hih
     · simp only [h2, decide_false, Bool.false_eq_true, if_false, Bool.false_and]; exact Ev.now _
   · simp only [if_neg (show ¬ (rd_T80 ts (i : Int)).f1 ≥ 1 from h1), Option.bind_some, h1, decide_false, Bool.false_eq_true, if_false, Bool.false_and]; exact Ev.now _
theorem ev_sumIs (p : Int) (ts : List S80) : Ev (fun k => spec_l03Is.f k p ts) (isSumB p ts) := by
 unfold spec_l03Is.f isSumB
 simp only [ev_prime, Option.bind_some]
 cases hp : primeB p with
 | false =>
  simp only [Bool.false_eq_true, if_false, Bool.false_and]
  refine Ev.step (fun k => by rw [spec_l03Is.j0]) ?_
  simp only [if_true]
  exact Ev.now _
 | true =>
  simp only [if_true, Bool.true_and]
  refine Ev.step (fun k => by rw [spec_l03Is.j0]) ?_
  by_cases hl : ts.length ≤ 200
  · have h1 : decide ((ts.length : Int) > 200) = false := by simp; omega
    simp only [h1, Bool.false_eq_true, if_false, hl, decide_true, Bool.true_and]
    have := specIs_l0 p ts hp hl ts.length 0 (by omega) (fun j hj => by omega)
    simpa [prevT] using this
  · have h1 : decide ((ts.length : Int) > 200) = true := by simp; omega
    simp only [h1, if_true, hl, decide_false, Bool.false_and]
    exact Ev.now _
theorem implIs_l0 (p : Int) (ts : List S80) (hp : primeB p = true) (hn : ts.length ≤ 200) : ∀ (d i : Nat), i + d = ts.length → (∀ j, j < i → isWordB (rd_T80 ts (j : Int)).f0 = true) → Ev (fun k => impl_IsSum.l0 k ts (ts.length : Int) (i : Int) p ts) (termsOk p (prevT ts i) (ts.drop i)) := by
 have hpr := primeB_range hp
 have hwp : wrap64 (p - 1) = p - 1 := by unfold wrap64; omega
 intro d
 induction d with
 | zero =>
  intro i hi hw
  refine Ev.step (fun k => by rw [impl_IsSum.l0]) ?_
  simp only [if_neg (show ¬ ((i : Int) < (ts.length : Int)) by omega)]
  refine ev_val ?_
  rw [List.drop_of_length_le (by omega)]
  rfl
 | succ d ih =>
  intro i hi hw
  refine Ev.step (fun k => by rw [impl_IsSum.l0]) ?_
  simp only [if_pos (show (i : Int) < (ts.length : Int) by omega), if_pos (show (0 : Int) ≤ (i : Int) by omega)]
  rw [rdT_drop ts i (by omega)]
  simp only [termsOk]
  refine Ev.bind (ev_isWord _) ?_
  cases hwd : isWordB (rd_T80 ts (i : Int)).f0 with
  | false => simp only [Bool.false_eq_true, if_false, Bool.false_and]; exact Ev.now _
  | true =>
   simp only [if_true, Bool.true_and, hwp, impl_in.f]
   by_cases h1 : (1 : Int) ≤ (rd_T80 ts (i : Int)).f1
   · simp only [if_pos (show (rd_T80 ts (i : Int)).f1 ≥ 1 from h1), Option.bind_some, h1, decide_true, Bool.true_and]
     by_cases h2 : (rd_T80 ts (i : Int)).f1 ≤ p - 1
     · simp only [h2, decide_true, if_true, Bool.true_and, Option.bind_some]
       have hih := ih (i + 1) (by omega) (fun j hj => by
        by_cases hji : j = i
        · subst hji; exact hwd
        · exact hw j (by omega))
       have hpv : prevT ts (i + 1) = some (rd_T80 ts (i : Int)).f0 := by simp [prevT]
       rw [hpv] at hih
       by_cases h0 : i = 0
       · subst h0
         simp only [prevT, if_true, Bool.true_and]
         simp only [if_neg (show ¬ ((0 : Nat) : Int) > 0 by omega), wr1 0 ts.length (by omega) (by omega)]
         exact hih
       · simp only [if_pos (show (i : Int) > 0 by omega), wrm1 i ts.length (by omega) (by omega) (by omega), if_pos (show (0 : Int) ≤ ((i - 1 : Nat) : Int) by omega), if_pos (show ((i - 1 : Nat) : Int) < (ts.length : Int) by omega)]
         have hlen := isWordB_len (hw (i - 1) (by omega))
         refine Ev.bind (ev_wordOrder _ _ (by omega)) ?_
         have hpi : prevT ts i = some (rd_T80 ts ((i - 1 : Nat) : Int)).f0 := by simp [prevT, h0]
         simp only [hpi, wlt]
         by_cases h3 : wordCmp (rd_T80 ts ((i - 1 : Nat) : Int)).f0 (rd_T80 ts (i : Int)).f0 < 0
         · simp only [if_neg (show ¬ wordCmp (rd_T80 ts ((i - 1 : Nat) : Int)).f0 (rd_T80 ts (i : Int)).f0 ≥ 0 by omega), h3, decide_true, Bool.true_and, wr1 i ts.length (by omega) (by omega)]; exact hih
         · simp only [if_pos (show wordCmp (rd_T80 ts ((i - 1 : Nat) : Int)).f0 (rd_T80 ts (i : Int)).f0 ≥ 0 by omega), h3, decide_false, Bool.false_and]; exact Ev.now _
     · simp only [h2, decide_false, Bool.false_eq_true, if_false, Bool.false_and]; exact Ev.now _
   · simp only [if_neg (show ¬ (rd_T80 ts (i : Int)).f1 ≥ 1 from h1), Option.bind_some, h1, decide_false, Bool.false_eq_true, if_false, Bool.false_and]; exact Ev.now _
theorem ev_isSum (p : Int) (ts : List S80) : Ev (fun k => impl_IsSum.f k p ts) (isSumB p ts) := by
 unfold impl_IsSum.f isSumB
 refine Ev.bind (ev_isPrime p) ?_
 cases hp : primeB p with
 | false =>
  simp only [Bool.false_eq_true, if_false, Bool.false_and]
  refine Ev.step (fun k => by rw [impl_IsSum.j0]) ?_
  simp only [if_true]
  exact Ev.now _
 | true =>
  simp only [if_true, Bool.true_and]
  refine Ev.step (fun k => by rw [impl_IsSum.j0]) ?_
  by_cases hl : ts.length ≤ 200
  · have h1 : decide ((ts.length : Int) > 200) = false := by simp; omega
    simp only [h1, Bool.false_eq_true, if_false, hl, decide_true, Bool.true_and]
    have := implIs_l0 p ts hp hl ts.length 0 (by omega) (fun j hj => by omega)
    simpa [prevT] using this
  · have h1 : decide ((ts.length : Int) > 200) = true := by simp; omega
    simp only [h1, if_true, hl, decide_false, Bool.false_and]
    exact Ev.now _
end Go.Proofs.Ytibahnmljafkdaa.P
