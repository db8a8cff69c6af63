/- Part of the claim. -/
import Derived.Test.YtgcgeoglhebonaaCeM4
import Derived.Test.YtgcgeoglhebonaaProg
import Derived.KernelRfl
import Derived.Shelf.SlSortCmp.WholeK
import Derived.Shelf.SlSortCmp.NoneTotal
set_option maxRecDepth 100000
set_option maxHeartbeats 8000000
section
namespace Go.Proofs.Ytgcgeoglhebonaa.P
open Go.RowKit Go.Proofs.YtgcgeoglhebonaaW.PrintWords Go.Proofs.YtgcgeoglhebonaaW.PrintLast
set_option linter.unusedVariables false
set_option linter.unusedSimpArgs false
theorem same_l0 (a b : List Int) (hl : a.length = b.length) (hn : a.length ≤ 1000000000000000) : ∀ (d i : Nat), i + d = a.length → Ev (fun k => spec_l01Same.l0 k a b (i : Int)) (decide (a.drop i = b.drop i)) := by
 intro d
 induction d with
 | zero =>
  intro i hi
  refine Ev.step (fun k => by rw [spec_l01Same.l0]) ?_
  simp only [if_neg (show ¬ ((i : Int) < (a.length : Int)) by omega)]
  refine ev_val ?_
  rw [List.drop_of_length_le (by omega), List.drop_of_length_le (by omega)]
  simp
 | succ d ih =>
  intro i hi
  refine Ev.step (fun k => by rw [spec_l01Same.l0]) ?_
  simp only [if_pos (show (i : Int) < (a.length : Int) by omega), if_pos (show (0 : Int) ≤ (i : Int) by omega), if_pos (show (i : Int) < (b.length : Int) by omega)]
  rw [rd_drop a i (by omega), rd_drop b i (by omega)]
  by_cases he : rd a (i : Int) = rd b (i : Int)
  · simp only [if_pos he, wr1 i a.length (by omega) hn]
    have := ih (i + 1) (by omega)
    simpa [he] using this
  · simp only [if_neg he]
    refine ev_val ?_
    simp [he]
theorem ev_same (a b : List Int) (hn : a.length ≤ 1000000000000000) : Ev (fun k => spec_l01Same.f k a b) (decide (a = b)) := by
 unfold spec_l01Same.f
 by_cases hl : a.length = b.length
 · simp only [if_pos (show (a.length : Int) = (b.length : Int) by omega)]
   have := same_l0 a b hl hn a.length 0 (by omega)
   simpa using this
 · simp only [if_neg (show ¬ (a.length : Int) = (b.length : Int) by omega)]
   refine ev_val ?_
   have : a ≠ b := fun h => hl (by rw [h])
   simp [this]
theorem equal_l0 (a b : List Int) (hl : a.length = b.length) (hn : a.length ≤ 1000000000000000) : ∀ (d i : Nat), i + d = a.length → Ev (fun k => slices_Equal_int64_int64.l0 k a b (a.length : Int) (i : Int)) (decide (a.drop i = b.drop i)) := by
 intro d
 induction d with
 | zero =>
  intro i hi
  refine Ev.step (fun k => by rw [slices_Equal_int64_int64.l0]) ?_
  simp only [if_neg (show ¬ ((i : Int) < (a.length : Int)) by omega)]
  refine ev_val ?_
  rw [List.drop_of_length_le (by omega), List.drop_of_length_le (by omega)]
  simp
 | succ d ih =>
  intro i hi
  refine Ev.step (fun k => by rw [slices_Equal_int64_int64.l0]) ?_
  simp only [if_pos (show (i : Int) < (a.length : Int) by omega), if_pos (show (0 : Int) ≤ (i : Int) by omega), if_pos (show (i : Int) < (b.length : Int) by omega)]
  rw [rd_drop a i (by omega), rd_drop b i (by omega)]
  by_cases he : rd a (i : Int) = rd b (i : Int)
  · simp only [if_pos he, wr1 i a.length (by omega) hn]
    have := ih (i + 1) (by omega)
    simpa [he] using this
  · simp only [if_neg he]
    refine ev_val ?_
    simp [he]
theorem ev_equal (a b : List Int) (hn : a.length ≤ 1000000000000000) : Ev (fun k => slices_Equal_int64_int64.f k a b) (decide (a = b)) := by
 unfold slices_Equal_int64_int64.f
 by_cases hl : a.length = b.length
 · simp only [if_pos (show (a.length : Int) = (b.length : Int) by omega)]
   have := equal_l0 a b hl hn a.length 0 (by omega)
   simpa using this
 · simp only [if_neg (show ¬ (a.length : Int) = (b.length : Int) by omega)]
   refine ev_val ?_
   have : a ≠ b := fun h => hl (by rw [h])
   simp [this]
theorem twice_l1 (l : List Int) (hn : l.length ≤ 1000000000000000) (j : Nat) (hj : j < l.length) (r : Bool) (hr : (l.count (rd l (j : Int)) : Int) = 2 → Ev (fun k => spec_l01Twice.l0 k l ((j + 1 : Nat) : Int)) r) (hr' : ¬ (l.count (rd l (j : Int)) : Int) = 2 → r = false) :
 ∀ (d i : Nat), i + d = l.length → Ev (fun k => spec_l01Twice.l1 k l (j : Int) (((l.take i).count (rd l (j : Int)) : Nat) : Int) (i : Int)) r := by
 intro d
 induction d with
 | zero =>
  intro i hi
  refine Ev.step (fun k => by rw [spec_l01Twice.l1]) ?_
  simp only [if_neg (show ¬ ((i : Int) < (l.length : Int)) by omega)]
  rw [List.take_of_length_le (by omega)]
  by_cases h2 : (l.count (rd l (j : Int)) : Int) = 2
  · simp only [if_pos h2, wr1 j l.length hj hn]; exact hr h2
  · simp only [if_neg h2]; exact ev_val (hr' h2).symm
 | succ d ih =>
  intro i hi
  have hc : (l.take i).count (rd l (j : Int)) ≤ i := Nat.le_trans List.count_le_length (by simp; omega)
  have hs : (l.take (i + 1)).count (rd l (j : Int)) = (l.take i).count (rd l (j : Int)) + if rd l (i : Int) = rd l (j : Int) then 1 else 0 := by
   rw [take_succ_rd l i (by omega), List.count_append, List.count_singleton]
   by_cases he : rd l (i : Int) = rd l (j : Int) <;> simp [he]
  refine Ev.step (fun k => by rw [spec_l01Twice.l1]) ?_
  simp only [if_pos (show (i : Int) < (l.length : Int) by omega), if_pos (show (0 : Int) ≤ (i : Int) by omega), if_pos (show (0 : Int) ≤ (j : Int) by omega), if_pos (show (j : Int) < (l.length : Int) by omega), wr1 i l.length (by omega) hn]
  by_cases he : rd l (i : Int) = rd l (j : Int)
  · simp only [if_pos he, wr1 ((l.take i).count (rd l (j : Int))) l.length (by omega) hn]
    have := ih (i + 1) (by omega)
    rw [hs, if_pos he] at this
    exact this
  · simp only [if_neg he]
    have := ih (i + 1) (by omega)
    rw [hs, if_neg he] at this
    exact this
theorem twice_l0 (l : List Int) (hn : l.length ≤ 1000000000000000) : ∀ (d i : Nat), i + d = l.length → Ev (fun k => spec_l01Twice.l0 k l (i : Int)) ((l.drop i).all fun x => decide (l.count x = 2)) := by
 intro d
 induction d with
 | zero =>
  intro i hi
  refine Ev.step (fun k => by rw [spec_l01Twice.l0]) ?_
  simp only [if_neg (show ¬ ((i : Int) < (l.length : Int)) by omega)]
  refine ev_val ?_
  rw [List.drop_of_length_le (by omega)]
  rfl
 | succ d ih =>
  intro i hi
  refine Ev.step (fun k => by rw [spec_l01Twice.l0]) ?_
  simp only [if_pos (show (i : Int) < (l.length : Int) by omega)]
  rw [rd_drop l i (by omega)]
  have h1 := twice_l1 l hn i (by omega) ((rd l (i : Int) :: l.drop (i + 1)).all fun x => decide (l.count x = 2)) (fun h => by
   have h2 : l.count (rd l (i : Int)) = 2 := by omega
   have := ih (i + 1) (by omega)
   simpa [h2] using this) (fun h => by
   have h2 : ¬ l.count (rd l (i : Int)) = 2 := by omega
   simp [h2]) l.length 0 (by omega)
  simpa using h1
theorem ev_twice (l : List Int) (hn : l.length ≤ 1000000000000000) : Ev (fun k => spec_l01Twice.f k l) (twiceB l) := by
 have := twice_l0 l hn l.length 0 (by omega)
 simpa [twiceB, spec_l01Twice.f] using this
theorem mets_nodup : ∀ (l met : List Int), met.Nodup → (mets met l).Nodup
 | [], met, h => h
 | x :: l, met, h => by
  simp only [mets]
  split
  · exact mets_nodup l met h
  · rename_i hx
    exact mets_nodup l _ (by
     rw [List.nodup_append]
     exact ⟨h, by simp, fun a ha b hb => by simp at hb; subst hb; intro e; subst e; exact hx ha⟩)
theorem normal_l1 (l met out : List Int) (hn : l.length ≤ 1000000000000000) (hml : met.length ≤ 1000000000000) (hnd : met.Nodup) (j : Nat) (hj : j < l.length) (r : List Int)
 (hyes : rd l (j : Int) ∈ met → Ev (fun k => (if out.length < 17592186044416 then spec_l01Normal.l0 k l met (out ++ [(met.idxOf (rd l (j : Int)) : Int)]) (wrap64 ((j : Int) + 1)) else none)) r)
 (hno : rd l (j : Int) ∉ met → Ev (fun k => (if out.length < 17592186044416 then spec_l01Normal.l0 k l (met ++ [rd l (j : Int)]) (out ++ [(met.length : Int)]) (wrap64 ((j : Int) + 1)) else none)) r) :
 ∀ (d i : Nat), i + d = met.length → Ev (fun k => spec_l01Normal.l1 k l met out (j : Int) (if rd l (j : Int) ∈ met.take i then (met.idxOf (rd l (j : Int)) : Int) else -1) (i : Int)) r := by
 intro d
 induction d with
 | zero =>
  intro i hi
  refine Ev.step (fun k => by rw [spec_l01Normal.l1]) ?_
  simp only [if_neg (show ¬ ((i : Int) < (met.length : Int)) by omega)]
  rw [List.take_of_length_le (by omega)]
  by_cases hm : rd l (j : Int) ∈ met
  · simp only [if_pos hm, if_neg (show ¬ ((met.idxOf (rd l (j : Int)) : Int) < 0) by omega)]
    exact hyes hm
  · simp only [if_neg hm, if_pos (show (-1 : Int) < 0 by omega), if_pos (show (0 : Int) ≤ (j : Int) by omega), if_pos (show (j : Int) < (l.length : Int) by omega), if_pos (show met.length < 17592186044416 by omega)]
    exact hno hm
 | succ d ih =>
  intro i hi
  refine Ev.step (fun k => by rw [spec_l01Normal.l1]) ?_
  simp only [if_pos (show (i : Int) < (met.length : Int) by omega), if_pos (show (0 : Int) ≤ (i : Int) by omega), if_pos (show (0 : Int) ≤ (j : Int) by omega), if_pos (show (j : Int) < (l.length : Int) by omega), wr1 i met.length (by omega) (by omega)]
  have hs := take_succ_rd met i (by omega)
  have hih := ih (i + 1) (by omega)
  rw [hs] at hih
  by_cases he : rd met (i : Int) = rd l (j : Int)
  · simp only [if_pos he]
    have hidx : met.idxOf (rd l (j : Int)) = i := by
     rw [← he]
     have hi2 : i < met.length := by omega
     have : rd met (i : Int) = met[i] := by simp [rd, List.getD_eq_getElem?_getD, List.getElem?_eq_getElem hi2]
     rw [this]
     exact List.Nodup.idxOf_getElem hnd i hi2
    rw [if_pos (by rw [← he]; simp), hidx] at hih
    exact hih
  · simp only [if_neg he]
    have : (rd l (j : Int) ∈ met.take i ++ [rd met (i : Int)]) ↔ rd l (j : Int) ∈ met.take i := by simp [Ne.symm he]
    simp only [this] at hih
    exact hih
theorem normal_l0 (l : List Int) (hn : l.length ≤ 1000000000) : ∀ (d i : Nat), i + d = l.length → Ev (fun k => spec_l01Normal.l0 k l (mets [] (l.take i)) (nrm (l.take i)) (i : Int)) (nrm l) := by
 intro d
 induction d with
 | zero =>
  intro i hi
  refine Ev.step (fun k => by rw [spec_l01Normal.l0]) ?_
  simp only [if_neg (show ¬ ((i : Int) < (l.length : Int)) by omega)]
  rw [List.take_of_length_le (by omega)]
  exact ev_val rfl
 | succ d ih =>
  intro i hi
  refine Ev.step (fun k => by rw [spec_l01Normal.l0]) ?_
  simp only [if_pos (show (i : Int) < (l.length : Int) by omega)]
  have hml := mets_len (l.take i) []
  simp only [List.length_nil, List.length_take] at hml
  have hol := nrm_length (l.take i)
  have hs := take_succ_rd l i (by omega)
  have hm1 := mets_snoc (l.take i) (rd l (i : Int)) []
  have hn1 : nrm (l.take i ++ [rd l (i : Int)]) = nrm (l.take i) ++ [((mets [] (l.take i)).idxOf (rd l (i : Int)) : Int)] := nrmFrom_snoc (l.take i) (rd l (i : Int)) []
  have hih := ih (i + 1) (by omega)
  rw [hs, hm1, hn1] at hih
  have h1 := normal_l1 l (mets [] (l.take i)) (nrm (l.take i)) (by omega) (by omega) (mets_nodup _ _ (by simp)) i (by omega) (nrm l) (fun hmem => by
   simp only [if_pos (show (nrm (l.take i)).length < 17592186044416 by rw [hol]; simp; omega), wr1 i l.length (by omega) (by omega)]
   rw [if_pos hmem] at hih
   exact hih) (fun hmem => by
   simp only [if_pos (show (nrm (l.take i)).length < 17592186044416 by rw [hol]; simp; omega), wr1 i l.length (by omega) (by omega)]
   rw [if_neg hmem, List.idxOf_eq_length hmem] at hih
   exact hih) (mets [] (l.take i)).length 0 (by omega)
  simpa using h1
theorem ev_normal (l : List Int) (hn : l.length ≤ 1000000000) : Ev (fun k => spec_l01Normal.f k l) (nrm l) := by
 have := normal_l0 l hn l.length 0 (by omega)
 simpa [spec_l01Normal.f, mets, nrm, nrmFrom] using this
def isWordB (l : List Int) : Bool := decide (l.length ≤ 12) && twiceB l && decide (nrm l = l)
theorem ev_is (l : List Int) : Ev (fun k => spec_l01Is.f k l) (isWordB l) := by
 unfold spec_l01Is.f isWordB
 by_cases hl : l.length ≤ 12
 · simp only [if_pos (show (l.length : Int) ≤ 12 by omega), hl, decide_true, Bool.true_and]
   refine Ev.bind (ev_twice l (by omega)) ?_
   cases twiceB l with
   | false => simp only [Bool.false_eq_true, if_false]; exact ev_val (by simp)
   | true =>
    simp only [if_true]
    refine Ev.bind (ev_normal l (by omega)) ?_
    exact Ev.bind (ev_same (nrm l) l (by rw [nrm_length]; omega)) (ev_val (by simp))
 · simp only [if_neg (show ¬ (l.length : Int) ≤ 12 by omega)]
   exact ev_val (by simp [hl])
theorem ev_isWord (l : List Int) : Ev (fun k => impl_IsWord.f k l) (isWordB l) := by
 unfold impl_IsWord.f isWordB impl_twice.f impl_normal.f
 by_cases hl : l.length ≤ 12
 · simp only [if_pos (show (l.length : Int) ≤ 12 by omega), hl, decide_true, Bool.true_and, Option.bind_some]
   cases twiceB l with
   | false => simp only [Bool.false_eq_true, if_false]; exact ev_val (by simp)
   | true =>
    simp only [if_true, if_pos (show l.length ≤ 1000000 by omega), Option.bind_some]
    exact Ev.bind (ev_equal (nrm l) l (by rw [nrm_length]; omega)) (ev_val (by simp))
 · simp only [if_neg (show ¬ (l.length : Int) ≤ 12 by omega)]
   exact ev_val (by simp [hl])
end Go.Proofs.Ytgcgeoglhebonaa.P
end
section
namespace Go.Proofs.Ytgcgeoglhebonaa.P
open Go.RowKit Go.Proofs.YtgcgeoglhebonaaW.PrintWords Go.Proofs.YtgcgeoglhebonaaW.PrintLast Go.Proofs.YtgcgeoglhebonaaW.PrintMore
attribute [local go_sem] max2_int min2_int max_two min_two max_three min_three max_four min_four   -- for this text's walks alone
set_option linter.unusedVariables false
set_option linter.unusedSimpArgs false
def cmp_Compare_int.f (a0 : Int) (a1 : Int) : Option (Int) := (cmp_isNaN_int.f a0).bind fun t387 => ((cmp_isNaN_int.f a1).bind fun t388 => (if t387 = true then (if t388 = true then (some 0) else (some (-1))) else (if t388 = true then (some 1) else (if a0 < a1 then (some (-1)) else (if a0 > a1 then (some 1) else (some 0))))))
theorem cmp_Compare_int.calls (a0 : Int) (a1 : Int) (r : Int) (w : World) (h : cmp_Compare_int.f a0 a1 = some r) :
 Calls Try.prog 94 #[.int .i64 a0, .int .i64 a1] w fun e w' => e = .returned (.int .i64 r) ∧ Drawn0 w w' := by
 have H : ((cmp_isNaN_int.f a0).bind fun t387 => ((cmp_isNaN_int.f a1).bind fun t388 => (if t387 = true then (if t388 = true then (some 0) else (some (-1))) else (if t388 = true then (some 1) else (if a0 < a1 then (some (-1)) else (if a0 > a1 then (some 1) else (some 0))))))) = some r := h
 clear h
 replace H := Option.bind_eq_some_iff.mp H
 obtain ⟨t387, A30, H⟩ := H
 replace H : ((cmp_isNaN_int.f a1).bind fun t388 => (if t387 = true then (if t388 = true then (some 0) else (some (-1))) else (if t388 = true then (some 1) else (if a0 < a1 then (some (-1)) else (if a0 > a1 then (some 1) else (some 0)))))) = some r := H
 have A3 := am A30
 clear A30
 replace H := Option.bind_eq_some_iff.mp H
 obtain ⟨t388, A40, H⟩ := H
 replace H : (if t387 = true then (if t388 = true then (some 0) else (some (-1))) else (if t388 = true then (some 1) else (if a0 < a1 then (some (-1)) else (if a0 > a1 then (some 1) else (some 0))))) = some r := H
 have A4 := am A40
 clear A40
 by_cases c5 : t387 = true
 · subst c5
   have H1 : (if t388 = true then (some 0) else (some (-1))) = some r := by rw [if_pos rfl] at H; exact H
   clear H
   have H := H1
   clear H1
   by_cases c6 : t388 = true
   · subst c6
     have H1 : (some 0) = some r := by rw [if_pos rfl] at H; exact H
     clear H
     have H := H1
     clear H1
     obtain rfl := Option.some.inj H
     go_enter Try.func94, Try.ntmps94
     go_wp2_with (first | ((with_reducible refine gate_callee (f := 99) rfl ?_); refine goesL_ (some 8) rfl rfl Try.func99 (by kernel_rfl) rfl #[.int .i64 a0] rfl (by (try simp only [List.map_toArray, List.map_cons, List.map_nil]); rfl) ?_; (with_reducible refine (cmp_isNaN_int.calls a0 true _ A3.out).mono ?_); rintro e w' ⟨rfl, ⟨nd, rfl⟩⟩; refine ⟨_, rfl, ?_⟩) | ((with_reducible refine gate_callee (f := 99) rfl ?_); refine goesL_ (some 10) rfl rfl Try.func99 (by kernel_rfl) rfl #[.int .i64 a1] rfl (by (try simp only [List.map_toArray, List.map_cons, List.map_nil]); rfl) ?_; (with_reducible refine (cmp_isNaN_int.calls a1 true _ A4.out).mono ?_); rintro e w' ⟨rfl, ⟨nd, rfl⟩⟩; refine ⟨_, rfl, ?_⟩))
     go_ret
     exact ⟨by rfl, by repeat (first | exact Drawn0.refl _ | apply Drawn0.step)⟩
   · replace c6 := Bool.eq_false_iff.mpr c6
     subst c6
     have H1 : (some (-1)) = some r := by rw [if_neg (show ¬ (false = true) by decide)] at H; exact H
     clear H
     have H := H1
     clear H1
     obtain rfl := Option.some.inj H
     go_enter Try.func94, Try.ntmps94
     go_wp2_with (first | ((with_reducible refine gate_callee (f := 99) rfl ?_); refine goesL_ (some 8) rfl rfl Try.func99 (by kernel_rfl) rfl #[.int .i64 a0] rfl (by (try simp only [List.map_toArray, List.map_cons, List.map_nil]); rfl) ?_; (with_reducible refine (cmp_isNaN_int.calls a0 true _ A3.out).mono ?_); rintro e w' ⟨rfl, ⟨nd, rfl⟩⟩; refine ⟨_, rfl, ?_⟩) | ((with_reducible refine gate_callee (f := 99) rfl ?_); refine goesL_ (some 10) rfl rfl Try.func99 (by kernel_rfl) rfl #[.int .i64 a1] rfl (by (try simp only [List.map_toArray, List.map_cons, List.map_nil]); rfl) ?_; (with_reducible refine (cmp_isNaN_int.calls a1 false _ A4.out).mono ?_); rintro e w' ⟨rfl, ⟨nd, rfl⟩⟩; refine ⟨_, rfl, ?_⟩))
     go_ret
     exact ⟨by rfl, by repeat (first | exact Drawn0.refl _ | apply Drawn0.step)⟩
 · replace c5 := Bool.eq_false_iff.mpr c5
   subst c5
   have H1 : (if t388 = true then (some 1) else (if a0 < a1 then (some (-1)) else (if a0 > a1 then (some 1) else (some 0)))) = some r := by rw [if_neg (show ¬ (false = true) by decide)] at H; exact H
   clear H
   have H := H1
   clear H1
   by_cases c7 : t388 = true
   · subst c7
     have H1 : (some 1) = some r := by rw [if_pos rfl] at H; exact H
     clear H
     have H := H1
     clear H1
     obtain rfl := Option.some.inj H
     go_enter Try.func94, Try.ntmps94
     go_wp2_with (first | ((with_reducible refine gate_callee (f := 99) rfl ?_); refine goesL_ (some 8) rfl rfl Try.func99 (by kernel_rfl) rfl #[.int .i64 a0] rfl (by (try simp only [List.map_toArray, List.map_cons, List.map_nil]); rfl) ?_; (with_reducible refine (cmp_isNaN_int.calls a0 false _ A3.out).mono ?_); rintro e w' ⟨rfl, ⟨nd, rfl⟩⟩; refine ⟨_, rfl, ?_⟩) | ((with_reducible refine gate_callee (f := 99) rfl ?_); refine goesL_ (some 10) rfl rfl Try.func99 (by kernel_rfl) rfl #[.int .i64 a1] rfl (by (try simp only [List.map_toArray, List.map_cons, List.map_nil]); rfl) ?_; (with_reducible refine (cmp_isNaN_int.calls a1 true _ A4.out).mono ?_); rintro e w' ⟨rfl, ⟨nd, rfl⟩⟩; refine ⟨_, rfl, ?_⟩))
     go_ret
     exact ⟨by rfl, by repeat (first | exact Drawn0.refl _ | apply Drawn0.step)⟩
   · replace c7 := Bool.eq_false_iff.mpr c7
     subst c7
     have H1 : (if a0 < a1 then (some (-1)) else (if a0 > a1 then (some 1) else (some 0))) = some r := by rw [if_neg (show ¬ (false = true) by decide)] at H; exact H
     clear H
     have H := H1
     clear H1
     by_cases c8 : a0 < a1
     · rw [if_pos c8] at H
       have c8b0 : decide (a0 < a1) = true := decide_eq_true c8
       clear c8
       obtain rfl := Option.some.inj H
       go_enter Try.func94, Try.ntmps94
       go_wp2_with (first | ((with_reducible refine gate_callee (f := 99) rfl ?_); refine goesL_ (some 8) rfl rfl Try.func99 (by kernel_rfl) rfl #[.int .i64 a0] rfl (by (try simp only [List.map_toArray, List.map_cons, List.map_nil]); rfl) ?_; (with_reducible refine (cmp_isNaN_int.calls a0 false _ A3.out).mono ?_); rintro e w' ⟨rfl, ⟨nd, rfl⟩⟩; refine ⟨_, rfl, ?_⟩) | ((with_reducible refine gate_callee (f := 99) rfl ?_); refine goesL_ (some 10) rfl rfl Try.func99 (by kernel_rfl) rfl #[.int .i64 a1] rfl (by (try simp only [List.map_toArray, List.map_cons, List.map_nil]); rfl) ?_; (with_reducible refine (cmp_isNaN_int.calls a1 false _ A4.out).mono ?_); rintro e w' ⟨rfl, ⟨nd, rfl⟩⟩; refine ⟨_, rfl, ?_⟩))
       go_ret
       exact ⟨by rfl, by repeat (first | exact Drawn0.refl _ | apply Drawn0.step)⟩
     · rw [if_neg c8] at H
       have c8b0 : decide (a0 < a1) = false := decide_eq_false c8
       clear c8
       by_cases c9 : a0 > a1
       · rw [if_pos c9] at H
         have c9b0 : decide (a1 < a0) = true := decide_eq_true c9
         clear c9
         obtain rfl := Option.some.inj H
         go_enter Try.func94, Try.ntmps94
         go_wp2_with (first | ((with_reducible refine gate_callee (f := 99) rfl ?_); refine goesL_ (some 8) rfl rfl Try.func99 (by kernel_rfl) rfl #[.int .i64 a0] rfl (by (try simp only [List.map_toArray, List.map_cons, List.map_nil]); rfl) ?_; (with_reducible refine (cmp_isNaN_int.calls a0 false _ A3.out).mono ?_); rintro e w' ⟨rfl, ⟨nd, rfl⟩⟩; refine ⟨_, rfl, ?_⟩) | ((with_reducible refine gate_callee (f := 99) rfl ?_); refine goesL_ (some 10) rfl rfl Try.func99 (by kernel_rfl) rfl #[.int .i64 a1] rfl (by (try simp only [List.map_toArray, List.map_cons, List.map_nil]); rfl) ?_; (with_reducible refine (cmp_isNaN_int.calls a1 false _ A4.out).mono ?_); rintro e w' ⟨rfl, ⟨nd, rfl⟩⟩; refine ⟨_, rfl, ?_⟩))
         go_ret
         exact ⟨by rfl, by repeat (first | exact Drawn0.refl _ | apply Drawn0.step)⟩
       · rw [if_neg c9] at H
         have c9b0 : decide (a1 < a0) = false := decide_eq_false c9
         clear c9
         obtain rfl := Option.some.inj H
         go_enter Try.func94, Try.ntmps94
         go_wp2_with (first | ((with_reducible refine gate_callee (f := 99) rfl ?_); refine goesL_ (some 8) rfl rfl Try.func99 (by kernel_rfl) rfl #[.int .i64 a0] rfl (by (try simp only [List.map_toArray, List.map_cons, List.map_nil]); rfl) ?_; (with_reducible refine (cmp_isNaN_int.calls a0 false _ A3.out).mono ?_); rintro e w' ⟨rfl, ⟨nd, rfl⟩⟩; refine ⟨_, rfl, ?_⟩) | ((with_reducible refine gate_callee (f := 99) rfl ?_); refine goesL_ (some 10) rfl rfl Try.func99 (by kernel_rfl) rfl #[.int .i64 a1] rfl (by (try simp only [List.map_toArray, List.map_cons, List.map_nil]); rfl) ?_; (with_reducible refine (cmp_isNaN_int.calls a1 false _ A4.out).mono ?_); rintro e w' ⟨rfl, ⟨nd, rfl⟩⟩; refine ⟨_, rfl, ?_⟩))
         go_ret
         exact ⟨by rfl, by repeat (first | exact Drawn0.refl _ | apply Drawn0.step)⟩
def cmp_isNaN_int64.f (a0 : Int) : Option (Bool) := some (a0 != a0)
theorem cmp_isNaN_int64.calls (a0 : Int) (r : Bool) (w : World) (h : cmp_isNaN_int64.f a0 = some r) :
 Calls Try.prog 111 #[.int .i64 a0] w fun e w' => e = .returned (.bool r) ∧ Drawn0 w w' := by
 have H : (some (a0 != a0)) = some r := h
 clear h
 obtain rfl := Option.some.inj H
 go_enter Try.func111, Try.ntmps111
 go_wp2
 go_ret
 exact ⟨by rfl, by repeat (exact Drawn0.refl _)⟩
def cmp_Compare_int64.f (a0 : Int) (a1 : Int) : Option (Int) := (cmp_isNaN_int64.f a0).bind fun t389 => ((cmp_isNaN_int64.f a1).bind fun t390 => (if t389 = true then (if t390 = true then (some 0) else (some (-1))) else (if t390 = true then (some 1) else (if a0 < a1 then (some (-1)) else (if a0 > a1 then (some 1) else (some 0))))))
theorem cmp_Compare_int64.calls (a0 : Int) (a1 : Int) (r : Int) (w : World) (h : cmp_Compare_int64.f a0 a1 = some r) :
 Calls Try.prog 100 #[.int .i64 a0, .int .i64 a1] w fun e w' => e = .returned (.int .i64 r) ∧ Drawn0 w w' := by
 have H : ((cmp_isNaN_int64.f a0).bind fun t389 => ((cmp_isNaN_int64.f a1).bind fun t390 => (if t389 = true then (if t390 = true then (some 0) else (some (-1))) else (if t390 = true then (some 1) else (if a0 < a1 then (some (-1)) else (if a0 > a1 then (some 1) else (some 0))))))) = some r := h
 clear h
 replace H := Option.bind_eq_some_iff.mp H
 obtain ⟨t389, A30, H⟩ := H
 replace H : ((cmp_isNaN_int64.f a1).bind fun t390 => (if t389 = true then (if t390 = true then (some 0) else (some (-1))) else (if t390 = true then (some 1) else (if a0 < a1 then (some (-1)) else (if a0 > a1 then (some 1) else (some 0)))))) = some r := H
 have A3 := am A30
 clear A30
 replace H := Option.bind_eq_some_iff.mp H
 obtain ⟨t390, A40, H⟩ := H
 replace H : (if t389 = true then (if t390 = true then (some 0) else (some (-1))) else (if t390 = true then (some 1) else (if a0 < a1 then (some (-1)) else (if a0 > a1 then (some 1) else (some 0))))) = some r := H
 have A4 := am A40
 clear A40
 by_cases c5 : t389 = true
 · subst c5
   have H1 : (if t390 = true then (some 0) else (some (-1))) = some r := by rw [if_pos rfl] at H; exact H
   clear H
   have H := H1
   clear H1
   by_cases c6 : t390 = true
   · subst c6
     have H1 : (some 0) = some r := by rw [if_pos rfl] at H; exact H
     clear H
     have H := H1
     clear H1
     obtain rfl := Option.some.inj H
     go_enter Try.func100, Try.ntmps100
     go_wp2_with (first | ((with_reducible refine gate_callee (f := 111) rfl ?_); refine goesL_ (some 8) rfl rfl Try.func111 (by kernel_rfl) rfl #[.int .i64 a0] rfl (by (try simp only [List.map_toArray, List.map_cons, List.map_nil]); rfl) ?_; (with_reducible refine (cmp_isNaN_int64.calls a0 true _ A3.out).mono ?_); rintro e w' ⟨rfl, ⟨nd, rfl⟩⟩; refine ⟨_, rfl, ?_⟩) | ((with_reducible refine gate_callee (f := 111) rfl ?_); refine goesL_ (some 10) rfl rfl Try.func111 (by kernel_rfl) rfl #[.int .i64 a1] rfl (by (try simp only [List.map_toArray, List.map_cons, List.map_nil]); rfl) ?_; (with_reducible refine (cmp_isNaN_int64.calls a1 true _ A4.out).mono ?_); rintro e w' ⟨rfl, ⟨nd, rfl⟩⟩; refine ⟨_, rfl, ?_⟩))
     go_ret
     exact ⟨by rfl, by repeat (first | exact Drawn0.refl _ | apply Drawn0.step)⟩
   · replace c6 := Bool.eq_false_iff.mpr c6
     subst c6
     have H1 : (some (-1)) = some r := by rw [if_neg (show ¬ (false = true) by decide)] at H; exact H
     clear H
     have H := H1
     clear H1
     obtain rfl := Option.some.inj H
     go_enter Try.func100, Try.ntmps100
     go_wp2_with (first | ((with_reducible refine gate_callee (f := 111) rfl ?_); refine goesL_ (some 8) rfl rfl Try.func111 (by kernel_rfl) rfl #[.int .i64 a0] rfl (by (try simp only [List.map_toArray, List.map_cons, List.map_nil]); rfl) ?_; (with_reducible refine (cmp_isNaN_int64.calls a0 true _ A3.out).mono ?_); rintro e w' ⟨rfl, ⟨nd, rfl⟩⟩; refine ⟨_, rfl, ?_⟩) | ((with_reducible refine gate_callee (f := 111) rfl ?_); refine goesL_ (some 10) rfl rfl Try.func111 (by kernel_rfl) rfl #[.int .i64 a1] rfl (by (try simp only [List.map_toArray, List.map_cons, List.map_nil]); rfl) ?_; (with_reducible refine (cmp_isNaN_int64.calls a1 false _ A4.out).mono ?_); rintro e w' ⟨rfl, ⟨nd, rfl⟩⟩; refine ⟨_, rfl, ?_⟩))
     go_ret
     exact ⟨by rfl, by repeat (first | exact Drawn0.refl _ | apply Drawn0.step)⟩
 · replace c5 := Bool.eq_false_iff.mpr c5
   subst c5
   have H1 : (if t390 = true then (some 1) else (if a0 < a1 then (some (-1)) else (if a0 > a1 then (some 1) else (some 0)))) = some r := by rw [if_neg (show ¬ (false = true) by decide)] at H; exact H
   clear H
   have H := H1
   clear H1
   by_cases c7 : t390 = true
   · subst c7
     have H1 : (some 1) = some r := by rw [if_pos rfl] at H; exact H
     clear H
     have H := H1
     clear H1
     obtain rfl := Option.some.inj H
     go_enter Try.func100, Try.ntmps100
     go_wp2_with (first | ((with_reducible refine gate_callee (f := 111) rfl ?_); refine goesL_ (some 8) rfl rfl Try.func111 (by kernel_rfl) rfl #[.int .i64 a0] rfl (by (try simp only [List.map_toArray, List.map_cons, List.map_nil]); rfl) ?_; (with_reducible refine (cmp_isNaN_int64.calls a0 false _ A3.out).mono ?_); rintro e w' ⟨rfl, ⟨nd, rfl⟩⟩; refine ⟨_, rfl, ?_⟩) | ((with_reducible refine gate_callee (f := 111) rfl ?_); refine goesL_ (some 10) rfl rfl Try.func111 (by kernel_rfl) rfl #[.int .i64 a1] rfl (by (try simp only [List.map_toArray, List.map_cons, List.map_nil]); rfl) ?_; (with_reducible refine (cmp_isNaN_int64.calls a1 true _ A4.out).mono ?_); rintro e w' ⟨rfl, ⟨nd, rfl⟩⟩; refine ⟨_, rfl, ?_⟩))
     go_ret
     exact ⟨by rfl, by repeat (first | exact Drawn0.refl _ | apply Drawn0.step)⟩
   · replace c7 := Bool.eq_false_iff.mpr c7
     subst c7
     have H1 : (if a0 < a1 then (some (-1)) else (if a0 > a1 then (some 1) else (some 0))) = some r := by rw [if_neg (show ¬ (false = true) by decide)] at H; exact H
     clear H
     have H := H1
     clear H1
     by_cases c8 : a0 < a1
     · rw [if_pos c8] at H
       have c8b0 : decide (a0 < a1) = true := decide_eq_true c8
       clear c8
       obtain rfl := Option.some.inj H
       go_enter Try.func100, Try.ntmps100
       go_wp2_with (first | ((with_reducible refine gate_callee (f := 111) rfl ?_); refine goesL_ (some 8) rfl rfl Try.func111 (by kernel_rfl) rfl #[.int .i64 a0] rfl (by (try simp only [List.map_toArray, List.map_cons, List.map_nil]); rfl) ?_; (with_reducible refine (cmp_isNaN_int64.calls a0 false _ A3.out).mono ?_); rintro e w' ⟨rfl, ⟨nd, rfl⟩⟩; refine ⟨_, rfl, ?_⟩) | ((with_reducible refine gate_callee (f := 111) rfl ?_); refine goesL_ (some 10) rfl rfl Try.func111 (by kernel_rfl) rfl #[.int .i64 a1] rfl (by (try simp only [List.map_toArray, List.map_cons, List.map_nil]); rfl) ?_; (with_reducible refine (cmp_isNaN_int64.calls a1 false _ A4.out).mono ?_); rintro e w' ⟨rfl, ⟨nd, rfl⟩⟩; refine ⟨_, rfl, ?_⟩))
       go_ret
       exact ⟨by rfl, by repeat (first | exact Drawn0.refl _ | apply Drawn0.step)⟩
     · rw [if_neg c8] at H
       have c8b0 : decide (a0 < a1) = false := decide_eq_false c8
       clear c8
       by_cases c9 : a0 > a1
       · rw [if_pos c9] at H
         have c9b0 : decide (a1 < a0) = true := decide_eq_true c9
         clear c9
         obtain rfl := Option.some.inj H
         go_enter Try.func100, Try.ntmps100
         go_wp2_with (first | ((with_reducible refine gate_callee (f := 111) rfl ?_); refine goesL_ (some 8) rfl rfl Try.func111 (by kernel_rfl) rfl #[.int .i64 a0] rfl (by (try simp only [List.map_toArray, List.map_cons, List.map_nil]); rfl) ?_; (with_reducible refine (cmp_isNaN_int64.calls a0 false _ A3.out).mono ?_); rintro e w' ⟨rfl, ⟨nd, rfl⟩⟩; refine ⟨_, rfl, ?_⟩) | ((with_reducible refine gate_callee (f := 111) rfl ?_); refine goesL_ (some 10) rfl rfl Try.func111 (by kernel_rfl) rfl #[.int .i64 a1] rfl (by (try simp only [List.map_toArray, List.map_cons, List.map_nil]); rfl) ?_; (with_reducible refine (cmp_isNaN_int64.calls a1 false _ A4.out).mono ?_); rintro e w' ⟨rfl, ⟨nd, rfl⟩⟩; refine ⟨_, rfl, ?_⟩))
         go_ret
         exact ⟨by rfl, by repeat (first | exact Drawn0.refl _ | apply Drawn0.step)⟩
       · rw [if_neg c9] at H
         have c9b0 : decide (a1 < a0) = false := decide_eq_false c9
         clear c9
         obtain rfl := Option.some.inj H
         go_enter Try.func100, Try.ntmps100
         go_wp2_with (first | ((with_reducible refine gate_callee (f := 111) rfl ?_); refine goesL_ (some 8) rfl rfl Try.func111 (by kernel_rfl) rfl #[.int .i64 a0] rfl (by (try simp only [List.map_toArray, List.map_cons, List.map_nil]); rfl) ?_; (with_reducible refine (cmp_isNaN_int64.calls a0 false _ A3.out).mono ?_); rintro e w' ⟨rfl, ⟨nd, rfl⟩⟩; refine ⟨_, rfl, ?_⟩) | ((with_reducible refine gate_callee (f := 111) rfl ?_); refine goesL_ (some 10) rfl rfl Try.func111 (by kernel_rfl) rfl #[.int .i64 a1] rfl (by (try simp only [List.map_toArray, List.map_cons, List.map_nil]); rfl) ?_; (with_reducible refine (cmp_isNaN_int64.calls a1 false _ A4.out).mono ?_); rintro e w' ⟨rfl, ⟨nd, rfl⟩⟩; refine ⟨_, rfl, ?_⟩))
         go_ret
         exact ⟨by rfl, by repeat (first | exact Drawn0.refl _ | apply Drawn0.step)⟩
def slices_Compare_int64_int64.l0 : Nat → List Int → List Int → List Int → Int → Int → Option (Int)
 | 0, _, _, _, _, _ => none
 | k + 1, x0, x1, x9, x10, x11 => if x11 < x10 then (if 0 ≤ x11 then (if x11 < (x9.length : Int) then (if x11 ≥ (x1.length : Int) then (some 1) else (if x11 < (x1.length : Int) then ((cmp_Compare_int64.f (rd x9 x11) (rd x1 x11)).bind fun t393 => (if t393 = 0 then (slices_Compare_int64_int64.l0 k x0 x1 x9 x10 (wrap64 (x11 + 1))) else (some t393))) else (none))) else (none)) else (none)) else (if (x0.length : Int) < (x1.length : Int) then (some (-1)) else (some 0))
def slices_Compare_int64_int64.f (k : Nat) (l0 : List Int) (l1 : List Int) : Option (Int) := slices_Compare_int64_int64.l0 k l0 l1 l0 (l0.length : Int) 0
theorem slices_Compare_int64_int64.calls (k : Nat) (A0 : Option Addr) (c0 : Nat) (l0 : List Int) (A1 : Option Addr) (c1 : Nat) (l1 : List Int) (r : Int) (w : World) (hr0 : Kd.C (Kd.int .i64) w A0 l0.length l0) (hc0 : l0.length ≤ c0) (hr1 : Kd.C (Kd.int .i64) w A1 l1.length l1) (hc1 : l1.length ≤ c1) (h : slices_Compare_int64_int64.f k l0 l1 = some r) :
 Calls Try.prog 95 #[.slice A0 l0.length c0, .slice A1 l1.length c1] w fun e w' => e = .returned (.int .i64 r) ∧ Drawn0 w w' := by
 have HR0 := am hr0
 have HC0 := am hc0
 clear hr0 hc0
 have HR1 := am hr1
 have HC1 := am hc1
 clear hr1 hc1
 have H : (slices_Compare_int64_int64.l0 k l0 l1 l0 (l0.length : Int) 0) = some r := h
 clear h
 have H' := am H
 clear H
 go_enter Try.func95, Try.ntmps95
 go_wp2
 go_loopg [11] k (fun kq v11 w' => ∃ (x11_1 : Int), v11 = .int .i64 x11_1 ∧ Aside0 (slices_Compare_int64_int64.l0 kq l0 l1 l0 (l0.length : Int) x11_1 = some r) ∧ Aside0 (kq ≤ k) ∧ Drawn0 w w')
 case atStart => exact ⟨(0), (by rfl), H', ⟨Nat.le_refl _⟩, by repeat (exact Drawn0.refl _)⟩
 case round =>
  clear H'
  try clear c1
  try clear p2
  obtain ⟨x11_1, rfl, HA, HK1, ⟨m1, rfl⟩⟩ := hrel
  cases gk with
  | zero => exact absurd HA.out (by simp [slices_Compare_int64_int64.l0])
  | succ k1 =>
   have H := HA.out
   clear HA
   simp only [slices_Compare_int64_int64.l0] at H
   by_cases c3 : x11_1 < (l0.length : Int)
   · rw [if_pos c3] at H
     have c3b0 : decide (x11_1 < (l0.length : Int)) = true := decide_eq_true c3
     clear c3
     by_cases c4 : 0 ≤ x11_1
     · rw [if_pos c4] at H
       have c4b0 : decide (0 ≤ x11_1) = true := decide_eq_true c4
       clear c4
       by_cases c5 : x11_1 < (l0.length : Int)
       · rw [if_pos c5] at H
         have c5b0 : decide (x11_1 < (l0.length : Int)) = true := decide_eq_true c5
         clear c5
         by_cases c6 : x11_1 ≥ (l1.length : Int)
         · rw [if_pos c6] at H
           have c6b0 : decide ((l1.length : Int) ≤ x11_1) = true := decide_eq_true c6
           clear c6
           obtain rfl := Option.some.inj H
           have p391 : 0 ≤ (x11_1 : Int) := of_decide_eq_true (by (with_reducible assumption))
           have q391 : x11_1 < (l0.length : Int) := of_decide_eq_true (by (with_reducible assumption))
           obtain ⟨ad391, e391, hx391_0⟩ := Kd.at_int HR0.out x11_1 p391 q391
           cases e391
           replace p391 := eq_true p391
           replace q391 := eq_true q391
           go_wp2
           go_ret
           exact ⟨by rfl, by repeat (first | exact Drawn0.refl _ | apply Drawn0.step)⟩
         · rw [if_neg c6] at H
           have c6b0 : decide ((l1.length : Int) ≤ x11_1) = false := decide_eq_false c6
           clear c6
           by_cases c7 : x11_1 < (l1.length : Int)
           · rw [if_pos c7] at H
             have c7b0 : decide (x11_1 < (l1.length : Int)) = true := decide_eq_true c7
             clear c7
             replace H := Option.bind_eq_some_iff.mp H
             obtain ⟨t393, A80, H⟩ := H
             replace H : (if t393 = 0 then (slices_Compare_int64_int64.l0 k1 l0 l1 l0 (l0.length : Int) (wrap64 (x11_1 + 1))) else (some t393)) = some r := H
             have A8 := am A80
             clear A80
             by_cases c9 : t393 = 0
             · rw [if_pos c9] at H
               have c9b0 : (t393 == 0) = true := beq_iff_eq.mpr c9
               have c9b1 : (t393 != 0) = false := bne_eq_false_iff_eq.mpr c9
               clear c9
               have H' := am H
               clear H
               have p391 : 0 ≤ (x11_1 : Int) := of_decide_eq_true (by (with_reducible assumption))
               have q391 : x11_1 < (l0.length : Int) := of_decide_eq_true (by (with_reducible assumption))
               obtain ⟨ad391, e391, hx391_0⟩ := Kd.at_int HR0.out x11_1 p391 q391
               cases e391
               replace p391 := eq_true p391
               replace q391 := eq_true q391
               have p392 : 0 ≤ (x11_1 : Int) := of_decide_eq_true (by (with_reducible assumption))
               have q392 : x11_1 < (l1.length : Int) := of_decide_eq_true (by (with_reducible assumption))
               obtain ⟨ad392, e392, hx392_0⟩ := Kd.at_int HR1.out x11_1 p392 q392
               cases e392
               replace p392 := eq_true p392
               replace q392 := eq_true q392
               go_wp2_with (((with_reducible refine gate_callee (f := 100) rfl ?_); refine goesL_ (some 26) rfl rfl Try.func100 (by kernel_rfl) rfl #[.int .i64 (rd l0 x11_1), .int .i64 (rd l1 x11_1)] rfl (by (try simp only [List.map_toArray, List.map_cons, List.map_nil]); rfl) ?_; (with_reducible refine (cmp_Compare_int64.calls (rd l0 x11_1) (rd l1 x11_1) t393 _ A8.out).mono ?_); rintro e w' ⟨rfl, ⟨nd, rfl⟩⟩; refine ⟨_, rfl, ?_⟩))
               go_roundg k1
               case measure => have := HK1.out; omega
               case rel => exact ⟨(wrap64 (x11_1 + 1)), (by rfl), H', ⟨by have := HK1.out; omega⟩, by repeat (first | exact Drawn0.refl _ | apply Drawn0.step)⟩
             · rw [if_neg c9] at H
               have c9b0 : (t393 == 0) = false := beq_eq_false_iff_ne.mpr c9
               have c9b1 : (t393 != 0) = true := bne_iff_ne.mpr c9
               obtain rfl := Option.some.inj H
               have p391 : 0 ≤ (x11_1 : Int) := of_decide_eq_true (by (with_reducible assumption))
               have q391 : x11_1 < (l0.length : Int) := of_decide_eq_true (by (with_reducible assumption))
               obtain ⟨ad391, e391, hx391_0⟩ := Kd.at_int HR0.out x11_1 p391 q391
               cases e391
               replace p391 := eq_true p391
               replace q391 := eq_true q391
               have p392 : 0 ≤ (x11_1 : Int) := of_decide_eq_true (by (with_reducible assumption))
               have q392 : x11_1 < (l1.length : Int) := of_decide_eq_true (by (with_reducible assumption))
               obtain ⟨ad392, e392, hx392_0⟩ := Kd.at_int HR1.out x11_1 p392 q392
               cases e392
               replace p392 := eq_true p392
               replace q392 := eq_true q392
               go_wp2_with (((with_reducible refine gate_callee (f := 100) rfl ?_); refine goesL_ (some 26) rfl rfl Try.func100 (by kernel_rfl) rfl #[.int .i64 (rd l0 x11_1), .int .i64 (rd l1 x11_1)] rfl (by (try simp only [List.map_toArray, List.map_cons, List.map_nil]); rfl) ?_; (with_reducible refine (cmp_Compare_int64.calls (rd l0 x11_1) (rd l1 x11_1) t393 _ A8.out).mono ?_); rintro e w' ⟨rfl, ⟨nd, rfl⟩⟩; refine ⟨_, rfl, ?_⟩))
               go_ret
               exact ⟨by rfl, by repeat (first | exact Drawn0.refl _ | apply Drawn0.step)⟩
           · rw [if_neg c7] at H
             exact absurd H (by simp)
       · rw [if_neg c5] at H
         exact absurd H (by simp)
     · rw [if_neg c4] at H
       exact absurd H (by simp)
   · rw [if_neg c3] at H
     have c3b0 : decide (x11_1 < (l0.length : Int)) = false := decide_eq_false c3
     clear c3
     by_cases c10 : (l0.length : Int) < (l1.length : Int)
     · rw [if_pos c10] at H
       have c10b0 : decide ((l0.length : Int) < (l1.length : Int)) = true := decide_eq_true c10
       have c10b1 : decide (l0.length < l1.length) = true := decide_eq_true (Int.ofNat_lt.mp c10)
       clear c10
       obtain rfl := Option.some.inj H
       go_wp2
       go_ret
       exact ⟨by rfl, by repeat (first | exact Drawn0.refl _ | apply Drawn0.step)⟩
     · rw [if_neg c10] at H
       have c10b0 : decide ((l0.length : Int) < (l1.length : Int)) = false := decide_eq_false c10
       have c10b1 : decide (l0.length < l1.length) = false := decide_eq_false (fun h => c10 (Int.ofNat_lt.mpr h))
       clear c10
       obtain rfl := Option.some.inj H
       go_wp2
       go_ret
       exact ⟨by rfl, by repeat (first | exact Drawn0.refl _ | apply Drawn0.step)⟩
def impl_wordOrder.f (k : Nat) (l0 : List Int) (l1 : List Int) : Option (Int) := (cmp_Compare_int.f (l0.length : Int) (l1.length : Int)).bind fun t394 => ((slices_Compare_int64_int64.f k l0 l1).bind fun t395 => ((cmp_Or_int.f k (([t394, t395] : List Int))).bind fun t399 => (some t399)))
theorem impl_wordOrder.calls (k : Nat) (A0 : Option Addr) (c0 : Nat) (l0 : List Int) (A1 : Option Addr) (c1 : Nat) (l1 : List Int) (r : Int) (w : World) (hr0 : Kd.C (Kd.int .i64) w A0 l0.length l0) (hc0 : l0.length ≤ c0) (hr1 : Kd.C (Kd.int .i64) w A1 l1.length l1) (hc1 : l1.length ≤ c1) (h : impl_wordOrder.f k l0 l1 = some r) :
 Calls Try.prog 81 #[.slice A0 l0.length c0, .slice A1 l1.length c1] w fun e w' => e = .returned (.int .i64 r) ∧ Below w.heap.size w w' := by
 have HR0 := am hr0
 have HC0 := am hc0
 clear hr0 hc0
 have HR1 := am hr1
 have HC1 := am hc1
 clear hr1 hc1
 have HB := am (Below.refl w.heap.size w)
 have H : ((cmp_Compare_int.f (l0.length : Int) (l1.length : Int)).bind fun t394 => ((slices_Compare_int64_int64.f k l0 l1).bind fun t395 => ((cmp_Or_int.f k (([t394, t395] : List Int))).bind fun t399 => (some t399)))) = some r := h
 clear h
 replace H := Option.bind_eq_some_iff.mp H
 obtain ⟨t394, A30, H⟩ := H
 replace H : ((slices_Compare_int64_int64.f k l0 l1).bind fun t395 => ((cmp_Or_int.f k (([t394, t395] : List Int))).bind fun t399 => (some t399))) = some r := H
 have A3 := am A30
 clear A30
 replace H := Option.bind_eq_some_iff.mp H
 obtain ⟨t395, A40, H⟩ := H
 replace H : ((cmp_Or_int.f k (([t394, t395] : List Int))).bind fun t399 => (some t399)) = some r := H
 have A4 := am A40
 clear A40
 obtain ⟨y396, hy396⟩ : ∃ y_ : List Int, y_ = (([t394, t395] : List Int)) := ⟨_, rfl⟩
 replace H : ((cmp_Or_int.f k y396).bind fun t399 => (some t399)) = some r := by (rw [hy396]; with_reducible exact H)
 have Ny396 := am hy396
 clear hy396
 replace H := Option.bind_eq_some_iff.mp H
 obtain ⟨t399, A50, H⟩ := H
 replace H : (some t399) = some r := H
 have A5 := am A50
 clear A50
 obtain rfl := Option.some.inj H
 go_enter Try.func81, Try.ntmps81
 go_wp2_with (first | ((with_reducible refine gate_callee (f := 94) rfl ?_); refine goesL_ (some 9) rfl rfl Try.func94 (by kernel_rfl) rfl #[.int .i64 (l0.length : Int), .int .i64 (l1.length : Int)] rfl (by (try simp only [List.map_toArray, List.map_cons, List.map_nil]); rfl) ?_; (with_reducible refine (cmp_Compare_int.calls (l0.length : Int) (l1.length : Int) t394 _ A3.out).mono ?_); rintro e w' ⟨rfl, ⟨nd, rfl⟩⟩; refine ⟨_, rfl, ?_⟩) | ((with_reducible refine gate_callee (f := 95) rfl ?_); refine goesL_ (some 12) rfl rfl Try.func95 (by kernel_rfl) rfl #[.slice A0 l0.length c0, .slice A1 l1.length c1] rfl (by (try simp only [List.map_toArray, List.map_cons, List.map_nil]); rfl) ?_; (with_reducible refine (slices_Compare_int64_int64.calls k _ _ l0 _ _ l1 t395 _ ?side1 ?side2 ?side3 ?side4 A4.out).mono ?_); (case side1 => repeat (exact HR0.out)); (case side2 => exact HC0.out); (case side3 => repeat (exact HR1.out)); (case side4 => exact HC1.out); rintro e w' ⟨rfl, ⟨nd, rfl⟩⟩; refine ⟨_, rfl, ?_⟩) | ((with_reducible refine gate_dst (N := 13) rfl ?_); refine Kd.R_lit (Kd.int .i64) _ 3 ?hg (N := 13) ?hd (xs := ([t394, t395] : List Int)) (inner := [.int .i64 t394, .int .i64 t395]) (ok := fun _ => True) (okp := fun _ => True) ?hr ?hp (fun _ hk => hk) trivial (Below.refl _ _) (Nat.le_refl _) (by simp) ?_; (case hd => rfl); (case hg => rfl); (case hr => (go_simp; done)); (case hp => exact (Reps.one (show Kd.M (Kd.int .i64) _ _ _ t394 [.int .i64 t394] from rfl) (Reps.one (show Kd.M (Kd.int .i64) _ _ _ t395 [.int .i64 t395] from rfl) (Reps.none _ _)))); intro v397 w6 ho7 hb hg_ hnew_; clear hg_ hnew_; (rw [← Ny396.out] at ho7); have n0_ := am (Kd.R_lower ho7 (below_size (by repeat ((with_reducible first | exact HB.out | apply pw_below_drewN))))); have n1_ := am (below_step (by repeat ((with_reducible first | exact HB.out | apply pw_below_drewN))) hb); clear HB; have HO398 := n0_; have HB := n1_; clear n0_ n1_; clear hb ho7; obtain ⟨Ao8, co8, eo8⟩ := Kd.R_slice HO398.out; subst eo8) | ((with_reducible refine gate_callee (f := 93) rfl ?_); refine goesL_ (some 14) rfl rfl Try.func93 (by kernel_rfl) rfl #[.slice Ao8 y396.length co8] rfl (by (try simp only [List.map_toArray, List.map_cons, List.map_nil]); rfl) ?_; (with_reducible refine (cmp_Or_int.calls k _ _ y396 t399 _ ?side1 ?side2 A5.out).mono ?_); (case side1 => repeat (exact (Kd.R_reads' HO398.out).2.2)); (case side2 => exact (Kd.R_reads' HO398.out).2.1); rintro e w' ⟨rfl, ⟨nd, rfl⟩⟩; refine ⟨_, rfl, ?_⟩))
 go_ret
 exact ⟨by rfl, by repeat ((with_reducible first | exact HB.out | apply pw_below_drewN))⟩
end Go.Proofs.Ytgcgeoglhebonaa.P
end
section
namespace Go.Proofs.Ytgcgeoglhebonaa.P
open Go.RowKit Go.Proofs.YtgcgeoglhebonaaW.PrintWords Go.Proofs.YtgcgeoglhebonaaW.PrintLast Go.Proofs.YtgcgeoglhebonaaW.PrintMore
attribute [local go_sem] max2_int min2_int max_two min_two max_three min_three max_four min_four   -- for this text's walks alone
set_option linter.unusedVariables false
set_option linter.unusedSimpArgs false
mutual
def impl_IsSum.j0 : Nat → Bool → Int → List (S65) → Option (Bool)
 | 0, _, _, _ => none
 | k + 1, x14, x401000, x401001 => if x14 = true then (some false) else (impl_IsSum.l0 k x401001 (x401001.length : Int) 0 x401000 x401001)
def impl_IsSum.l0 : Nat → List (S65) → Int → Int → Int → List (S65) → Option (Bool)
 | 0, _, _, _, _, _ => none
 | k + 1, x16, x17, x18, x401000, x401001 => if x18 < x17 then (if 0 ≤ x18 then (if x18 < (x16.length : Int) then ((impl_IsWord.f k ((rd_T65 x16 x18).f0)).bind fun t404 => (if t404 = true then ((impl_in.f ((rd_T65 x16 x18).f1) 1 (wrap64 (x401000 - 1))).bind fun t405 => (if t405 = true then (if x18 > 0 then (if 0 ≤ (wrap64 (x18 - 1)) then (if (wrap64 (x18 - 1)) < (x401001.length : Int) then ((impl_wordOrder.f k ((rd_T65 x401001 (wrap64 (x18 - 1))).f0) ((rd_T65 x16 x18).f0)).bind fun t407 => (if t407 ≥ 0 then (some false) else (impl_IsSum.l0 k x16 x17 (wrap64 (x18 + 1)) x401000 x401001))) else (none)) else (none)) else (impl_IsSum.l0 k x16 x17 (wrap64 (x18 + 1)) x401000 x401001)) else (some false))) else (some false))) else (none)) else (none)) else (some true)
end
def impl_IsSum.f (k : Nat) (a0_0 : Int) (l0_1 : List (S65)) : Option (Bool) := (impl_isPrime.f k a0_0).bind fun t401 => (if t401 = true then (impl_IsSum.j0 k (decide ((l0_1.length : Int) > 200)) a0_0 l0_1) else (impl_IsSum.j0 k true a0_0 l0_1))
def impl_IsSum.T6 : Bool × List (List Nat × List Nat) := (true, [([], []), ([0], [0]), ([1], [1]), ([2], [2]), ([3, 2], [3]), ([4], [4]), ([5, 4], [4, 5]), ([4], [4]), ([7, 4], [4, 7]), ([8, 4], [4, 8]), ([6, 9, 4, 4], [4, 6, 9]), ([10, 4], [4, 10]), ([4, 11], [4, 11]), ([12, 10], [12]), ([13], [13]), ([14, 13], [13, 14]), ([15, 13, 13], [13, 15]), ([16], [16]), ([17, 16], [16, 17]), ([16], [16]), ([19, 16], [16, 19]), ([18, 20, 16], [16, 18, 20]), ([21, 16], [16, 21]), ([22, 16], [16, 22]), ([16], [16]), ([24, 16], [16, 24]), ([23, 25, 16, 16], [16, 23, 25]), ([26, 16], [16, 26]), ([16, 27, 13], [13, 16, 27]), ([13, 28], [13, 28])])
def impl_IsSum.B6 : List Nat := [0, 1, 3, 7, 15, 31, 63, 31, 159, 415, 1023, 2047, 4095, 8191, 16383, 32767, 65535, 131071, 262143, 131071, 655359, 2097151, 4194303, 8388607, 131071, 16908287, 67108863, 134217727, 268435455, 536870911]
theorem impl_IsSum.tab6 : rtab .any (opsOf Try.f54 6) = impl_IsSum.T6 := by kernel_rfl
theorem impl_IsSum.bits6 : waitsOk impl_IsSum.T6.2 impl_IsSum.B6 = true := by kernel_rfl
theorem impl_IsSum.calls (k : Nat) (a0_0 : Int) (A0_1 : Option Addr) (c0_1 : Nat) (l0_1 : List (S65)) (r : Bool) (w : World) (hr0_1 : Kd.C k65 w A0_1 l0_1.length l0_1) (hc0_1 : l0_1.length ≤ c0_1) (h : impl_IsSum.f k a0_0 l0_1 = some r) :
 Calls Try.prog 54 #[.agg #[.int .i64 a0_0, .slice A0_1 l0_1.length c0_1]] w fun e w' => e = .returned (.bool r) ∧ Below w.heap.size w w' := by
 have hu28 := Try.underlying28
 have hu65 := Try.underlying65
 have HR0_1 := am hr0_1
 have HC0_1 := am hc0_1
 clear hr0_1 hc0_1
 have HB := am (Below.refl w.heap.size w)
 have H : ((impl_isPrime.f k a0_0).bind fun t401 => (if t401 = true then (impl_IsSum.j0 k (decide ((l0_1.length : Int) > 200)) a0_0 l0_1) else (impl_IsSum.j0 k true a0_0 l0_1))) = some r := h
 clear h
 have HC2 := am H
 clear H
 go_enter Try.func54, Try.ntmps54
 go_upto_region 1 with (((with_reducible refine gate_dst (N := 1) rfl ?_); (try (refine gate_guard (by rfl) ?_; dsimp only)); refine box_event ?hg (N := 1) ?hd (cs := #[.int .i64 a0_0, .slice A0_1 l0_1.length c0_1]) (t := 28) ?hr ?_; (case hd => rfl); (case hg => rfl); (case hr => (go_simp; done)); intro gb400 hg w3 hbox hb; have n0_ := am (below_step (by repeat ((with_reducible exact HB.out))) hb); have n1_ := am (hbox); have n2_ := am ((by rw [hg]; exact (below_size (by repeat ((with_reducible exact HB.out)))) : w.heap.size ≤ gb400)); have n3_ := am ((by rw [hg]; exact (below_size (by repeat ((with_reducible exact HB.out)))) : w.heap.size ≤ gb400)); clear HB; have HB := n0_; have BK400 := n1_; have GW400 := n2_; have GE400 := n3_; clear n0_ n1_ n2_ n3_; clear hb hbox hg))
 (try simp only [Act.put, q1, q2, q3])
 go_cut [14] (fun v14 wc => ∃ (kq : Nat) (x14_1 : Bool), v14 = .bool x14_1 ∧ Aside0 (impl_IsSum.j0 kq x14_1 a0_0 l0_1 = some r) ∧ Aside0 (kq ≤ k) ∧ Aside0 (wc.heap[gb400]? = some (.cells #[.int .i64 a0_0, (.slice A0_1 l0_1.length c0_1)] 28 (0, 0))) ∧ Aside0 (Below w.heap.size w wc))
 case first =>
  have H := HC2.out
  clear HC2
  replace H := Option.bind_eq_some_iff.mp H
  obtain ⟨t401, A40, H⟩ := H
  replace H : (if t401 = true then (impl_IsSum.j0 k (decide ((l0_1.length : Int) > 200)) a0_0 l0_1) else (impl_IsSum.j0 k true a0_0 l0_1)) = some r := H
  have A4 := am A40
  clear A40
  by_cases c5 : t401 = true
  · subst c5
    have H1 : (impl_IsSum.j0 k (decide ((l0_1.length : Int) > 200)) a0_0 l0_1) = some r := by rw [if_pos rfl] at H; exact H
    clear H
    have H := H1
    clear H1
    have H' := am H
    clear H
    have hcz6_0 : w3.cell? ⟨gb400, 0, none⟩ = some (.int .i64 a0_0) := (blk_cell BK400.out 0).trans rfl
    have hcz6_1 : w3.cell? ⟨gb400, 1, none⟩ = some (.slice A0_1 l0_1.length c0_1) := (blk_cell BK400.out 1).trans rfl
    have hfz6_0 := blk_frozen BK400.out 0
    have hfz6_1 := blk_frozen BK400.out 1
    go_wp2_with (((with_reducible refine gate_callee (f := 79) rfl ?_); refine goesL_ (some 7) rfl rfl Try.func79 (by kernel_rfl) rfl #[.int .i64 a0_0] rfl (by (try simp only [List.map_toArray, List.map_cons, List.map_nil]); rfl) ?_; (with_reducible refine (impl_isPrime.calls k a0_0 true _ A4.out).mono ?_); rintro e w7 ⟨rfl, hb⟩; refine ⟨_, rfl, ?_⟩; have n0_ := am (blk_below (g := gb400) (o := .cells #[.int .i64 a0_0, .slice A0_1 l0_1.length c0_1] 28 (0, 0)) (by exact BK400.out) hb); have n1_ := am (below_step (by repeat ((with_reducible exact HB.out))) hb); clear BK400; clear HB; have BK400 := n0_; have HB := n1_; clear n0_ n1_; (try clear hb); (try clear hb2); (try clear hk); (try clear hi); have hcz8_0 : w7.cell? ⟨gb400, 0, none⟩ = some (.int .i64 a0_0) := (blk_cell BK400.out 0).trans rfl; have hcz8_1 : w7.cell? ⟨gb400, 1, none⟩ = some (.slice A0_1 l0_1.length c0_1) := (blk_cell BK400.out 1).trans rfl; have hfz8_0 := blk_frozen BK400.out 0; have hfz8_1 := blk_frozen BK400.out 1))
    go_meet
    case rel => exact ⟨_, (decide ((l0_1.length : Int) > 200)), (by rfl), H', ⟨by omega⟩, ⟨by (with_reducible repeat (refine blk_drew ?_)); exact BK400.out⟩, ⟨by repeat ((with_reducible exact HB.out))⟩⟩
  · replace c5 := Bool.eq_false_iff.mpr c5
    subst c5
    have H1 : (impl_IsSum.j0 k true a0_0 l0_1) = some r := by rw [if_neg (show ¬ (false = true) by decide)] at H; exact H
    clear H
    have H := H1
    clear H1
    have H' := am H
    clear H
    have hcz9_0 : w3.cell? ⟨gb400, 0, none⟩ = some (.int .i64 a0_0) := (blk_cell BK400.out 0).trans rfl
    have hcz9_1 : w3.cell? ⟨gb400, 1, none⟩ = some (.slice A0_1 l0_1.length c0_1) := (blk_cell BK400.out 1).trans rfl
    have hfz9_0 := blk_frozen BK400.out 0
    have hfz9_1 := blk_frozen BK400.out 1
    go_wp2_with (((with_reducible refine gate_callee (f := 79) rfl ?_); refine goesL_ (some 7) rfl rfl Try.func79 (by kernel_rfl) rfl #[.int .i64 a0_0] rfl (by (try simp only [List.map_toArray, List.map_cons, List.map_nil]); rfl) ?_; (with_reducible refine (impl_isPrime.calls k a0_0 false _ A4.out).mono ?_); rintro e w10 ⟨rfl, hb⟩; refine ⟨_, rfl, ?_⟩; have n0_ := am (blk_below (g := gb400) (o := .cells #[.int .i64 a0_0, .slice A0_1 l0_1.length c0_1] 28 (0, 0)) (by exact BK400.out) hb); have n1_ := am (below_step (by repeat ((with_reducible exact HB.out))) hb); clear BK400; clear HB; have BK400 := n0_; have HB := n1_; clear n0_ n1_; (try clear hb); (try clear hb2); (try clear hk); (try clear hi)))
    go_meet
    case rel => exact ⟨_, (true), (by rfl), H', ⟨by omega⟩, ⟨by (with_reducible repeat (refine blk_drew ?_)); exact BK400.out⟩, ⟨by repeat ((with_reducible exact HB.out))⟩⟩
 case rest =>
  clear HC2
  try clear p2
  try clear c5
  try clear c7
  try clear hcz6_0
  try clear hcz6_1
  try clear hcz8_0
  try clear hcz8_1
  try clear hcz9_0
  try clear hcz9_1
  try clear hfz6_0
  try clear hfz6_1
  try clear hfz8_0
  try clear hfz8_1
  try clear hfz9_0
  try clear hfz9_1
  obtain ⟨kq, x14_1, rfl, HA, HJ1, BK400, HB⟩ := hcut
  cases kq with
  | zero => exact absurd HA.out (by simp [impl_IsSum.j0])
  | succ kj1 =>
   have H := HA.out
   clear HA
   simp only [impl_IsSum.j0] at H
   by_cases c11 : x14_1 = true
   · subst c11
     have H1 : (some false) = some r := by rw [if_pos rfl] at H; exact H
     clear H
     have H := H1
     clear H1
     obtain rfl := Option.some.inj H
     go_wp2
     go_ret
     exact ⟨by rfl, by repeat ((with_reducible exact HB.out))⟩
   · replace c11 := Bool.eq_false_iff.mpr c11
     subst c11
     have H1 : (impl_IsSum.l0 kj1 l0_1 (l0_1.length : Int) 0 a0_0 l0_1) = some r := by rw [if_neg (show ¬ (false = true) by decide)] at H; exact H
     clear H
     have H := H1
     clear H1
     have H' := am H
     clear H
     have hcz12_0 : wc.cell? ⟨gb400, 0, none⟩ = some (.int .i64 a0_0) := (blk_cell BK400.out 0).trans rfl
     have hcz12_1 : wc.cell? ⟨gb400, 1, none⟩ = some (.slice A0_1 l0_1.length c0_1) := (blk_cell BK400.out 1).trans rfl
     have hfz12_0 := blk_frozen BK400.out 0
     have hfz12_1 := blk_frozen BK400.out 1
     go_wp2
     go_loopg [18] kj1 (fun kq v18 w' => ∃ (x18_2 : Int), v18 = .int .i64 x18_2 ∧ Aside0 (impl_IsSum.l0 kq l0_1 (l0_1.length : Int) x18_2 a0_0 l0_1 = some r) ∧ Aside0 (kq ≤ kj1) ∧ Aside0 (w'.heap[gb400]? = some (.cells #[.int .i64 a0_0, (.slice A0_1 l0_1.length c0_1)] 28 (0, 0))) ∧ Aside0 (Below w.heap.size w w'))
     case atStart => exact ⟨(0), (by rfl), H', ⟨Nat.le_refl _⟩, ⟨by (with_reducible repeat (refine blk_drew ?_)); exact BK400.out⟩, ⟨by repeat ((with_reducible exact HB.out))⟩⟩
     case round =>
      clear H'
      try clear c1
      try clear p2
      try clear c5
      try clear c7
      try clear c11
      try clear hcz12_0
      try clear hcz12_1
      try clear hcz6_0
      try clear hcz6_1
      try clear hcz8_0
      try clear hcz8_1
      try clear hcz9_0
      try clear hcz9_1
      try clear hfz12_0
      try clear hfz12_1
      try clear hfz6_0
      try clear hfz6_1
      try clear hfz8_0
      try clear hfz8_1
      try clear hfz9_0
      try clear hfz9_1
      try clear p2
      obtain ⟨x18_2, rfl, HA, HK2, BK400, HB⟩ := hrel
      cases gk with
      | zero => exact absurd HA.out (by simp [impl_IsSum.l0])
      | succ k2 =>
       have H := HA.out
       clear HA
       simp only [impl_IsSum.l0] at H
       by_cases c13 : x18_2 < (l0_1.length : Int)
       · rw [if_pos c13] at H
         have c13b0 : decide (x18_2 < (l0_1.length : Int)) = true := decide_eq_true c13
         clear c13
         by_cases c14 : 0 ≤ x18_2
         · rw [if_pos c14] at H
           have c14b0 : decide (0 ≤ x18_2) = true := decide_eq_true c14
           clear c14
           by_cases c15 : x18_2 < (l0_1.length : Int)
           · rw [if_pos c15] at H
             have c15b0 : decide (x18_2 < (l0_1.length : Int)) = true := decide_eq_true c15
             clear c15
             replace H := Option.bind_eq_some_iff.mp H
             obtain ⟨t404, A160, H⟩ := H
             replace H : (if t404 = true then ((impl_in.f ((rd_T65 l0_1 x18_2).f1) 1 (wrap64 (a0_0 - 1))).bind fun t405 => (if t405 = true then (if x18_2 > 0 then (if 0 ≤ (wrap64 (x18_2 - 1)) then (if (wrap64 (x18_2 - 1)) < (l0_1.length : Int) then ((impl_wordOrder.f k2 ((rd_T65 l0_1 (wrap64 (x18_2 - 1))).f0) ((rd_T65 l0_1 x18_2).f0)).bind fun t407 => (if t407 ≥ 0 then (some false) else (impl_IsSum.l0 k2 l0_1 (l0_1.length : Int) (wrap64 (x18_2 + 1)) a0_0 l0_1))) else (none)) else (none)) else (impl_IsSum.l0 k2 l0_1 (l0_1.length : Int) (wrap64 (x18_2 + 1)) a0_0 l0_1)) else (some false))) else (some false)) = some r := H
             have A16 := am A160
             clear A160
             by_cases c17 : t404 = true
             · subst c17
               have H1 : ((impl_in.f ((rd_T65 l0_1 x18_2).f1) 1 (wrap64 (a0_0 - 1))).bind fun t405 => (if t405 = true then (if x18_2 > 0 then (if 0 ≤ (wrap64 (x18_2 - 1)) then (if (wrap64 (x18_2 - 1)) < (l0_1.length : Int) then ((impl_wordOrder.f k2 ((rd_T65 l0_1 (wrap64 (x18_2 - 1))).f0) ((rd_T65 l0_1 x18_2).f0)).bind fun t407 => (if t407 ≥ 0 then (some false) else (impl_IsSum.l0 k2 l0_1 (l0_1.length : Int) (wrap64 (x18_2 + 1)) a0_0 l0_1))) else (none)) else (none)) else (impl_IsSum.l0 k2 l0_1 (l0_1.length : Int) (wrap64 (x18_2 + 1)) a0_0 l0_1)) else (some false))) = some r := by rw [if_pos rfl] at H; exact H
               clear H
               have H := H1
               clear H1
               replace H := Option.bind_eq_some_iff.mp H
               obtain ⟨t405, A180, H⟩ := H
               replace H : (if t405 = true then (if x18_2 > 0 then (if 0 ≤ (wrap64 (x18_2 - 1)) then (if (wrap64 (x18_2 - 1)) < (l0_1.length : Int) then ((impl_wordOrder.f k2 ((rd_T65 l0_1 (wrap64 (x18_2 - 1))).f0) ((rd_T65 l0_1 x18_2).f0)).bind fun t407 => (if t407 ≥ 0 then (some false) else (impl_IsSum.l0 k2 l0_1 (l0_1.length : Int) (wrap64 (x18_2 + 1)) a0_0 l0_1))) else (none)) else (none)) else (impl_IsSum.l0 k2 l0_1 (l0_1.length : Int) (wrap64 (x18_2 + 1)) a0_0 l0_1)) else (some false)) = some r := H
               have A18 := am A180
               clear A180
               by_cases c19 : t405 = true
               · subst c19
                 have H1 : (if x18_2 > 0 then (if 0 ≤ (wrap64 (x18_2 - 1)) then (if (wrap64 (x18_2 - 1)) < (l0_1.length : Int) then ((impl_wordOrder.f k2 ((rd_T65 l0_1 (wrap64 (x18_2 - 1))).f0) ((rd_T65 l0_1 x18_2).f0)).bind fun t407 => (if t407 ≥ 0 then (some false) else (impl_IsSum.l0 k2 l0_1 (l0_1.length : Int) (wrap64 (x18_2 + 1)) a0_0 l0_1))) else (none)) else (none)) else (impl_IsSum.l0 k2 l0_1 (l0_1.length : Int) (wrap64 (x18_2 + 1)) a0_0 l0_1)) = some r := by rw [if_pos rfl] at H; exact H
                 clear H
                 have H := H1
                 clear H1
                 by_cases c20 : x18_2 > 0
                 · rw [if_pos c20] at H
                   have c20b0 : decide (0 < x18_2) = true := decide_eq_true c20
                   clear c20
                   obtain ⟨ji21, hji21⟩ : ∃ j_ : Int, (wrap64 (x18_2 - 1)) = j_ := ⟨_, rfl⟩
                   replace H : (if 0 ≤ (ji21) then (if (ji21) < (l0_1.length : Int) then ((impl_wordOrder.f k2 ((rd_T65 l0_1 (ji21)).f0) ((rd_T65 l0_1 x18_2).f0)).bind fun t407 => (if t407 ≥ 0 then (some false) else (impl_IsSum.l0 k2 l0_1 (l0_1.length : Int) (wrap64 (x18_2 + 1)) a0_0 l0_1))) else (none)) else (none)) = some r := by (rw [hji21] at H; exact H)
                   (try rw [hji21] at A16)
                   (try rw [hji21] at A18)
                   have hji21w : (IntKind.i64.wrap (x18_2 - 1)) = ji21 := (i64_w _).trans hji21
                   by_cases c22 : 0 ≤ (ji21)
                   · rw [if_pos c22] at H
                     have c22b0 : decide (0 ≤ (ji21)) = true := decide_eq_true c22
                     clear c22
                     by_cases c23 : (ji21) < (l0_1.length : Int)
                     · rw [if_pos c23] at H
                       have c23b0 : decide ((ji21) < (l0_1.length : Int)) = true := decide_eq_true c23
                       clear c23
                       replace H := Option.bind_eq_some_iff.mp H
                       obtain ⟨t407, A240, H⟩ := H
                       replace H : (if t407 ≥ 0 then (some false) else (impl_IsSum.l0 k2 l0_1 (l0_1.length : Int) (wrap64 (x18_2 + 1)) a0_0 l0_1)) = some r := H
                       have A24 := am A240
                       clear A240
                       by_cases c25 : t407 ≥ 0
                       · rw [if_pos c25] at H
                         have c25b0 : decide (0 ≤ t407) = true := decide_eq_true c25
                         clear c25
                         obtain rfl := Option.some.inj H
                         have p402 : 0 ≤ (x18_2 : Int) := of_decide_eq_true (by (with_reducible assumption))
                         have q402 : x18_2 < (l0_1.length : Int) := of_decide_eq_true (by (with_reducible assumption))
                         obtain ⟨ad402, A402_0, c402_0, e402, hx402_0, hx402_1, hl402_0, hi402_0⟩ := at_T65 HR0_1.out x18_2 p402 q402
                         cases e402
                         replace hx402_0 := (HB.out.cell (World.block_lt_of_cell? w _ hx402_0)).trans hx402_0
                         replace hx402_1 := (HB.out.cell (World.block_lt_of_cell? w _ hx402_1)).trans hx402_1
                         have HR402_0 := am hi402_0
                         have HC402_0 := am hl402_0
                         clear hi402_0 hl402_0
                         replace p402 := eq_true p402
                         replace q402 := eq_true q402
                         try go_wp2_with (((with_reducible refine gate_dst (N := 4) rfl ?_); (try (refine gate_guard (by rfl) ?_; dsimp only)); refine box_event ?hg (N := 4) ?hd (cs := #[.slice none 0 0, .int .i64 0]) (t := 65) ?hr ?_; (case hd => rfl); (case hg => rfl); (case hr => (go_simp; done)); intro gb403 hg w26 hbox hb; have n0_ := am (blk_below (g := gb400) (o := .cells #[.int .i64 a0_0, .slice (some ad402) l0_1.length c0_1] 28 (0, 0)) (by exact BK400.out) hb); have n1_ := am (below_step (by repeat ((with_reducible exact HB.out))) hb); have n2_ := am (hbox); have n3_ := am ((by rw [hg]; exact (below_size (by repeat ((with_reducible exact HB.out)))) : w.heap.size ≤ gb403)); have n4_ := am ((by rw [hg]; exact (below_size (by repeat ((with_reducible exact HB.out)))) : w.heap.size ≤ gb403)); have n5_ := am ((by rw [hg]; exact Nat.ne_of_lt (blk_lt (g := gb400) (o := .cells #[.int .i64 a0_0, .slice (some ad402) l0_1.length c0_1] 28 (0, 0)) (by exact BK400.out)) : gb400 ≠ gb403)); have n6_ := am ((by rw [hg]; exact Nat.ne_of_gt (blk_lt (g := gb400) (o := .cells #[.int .i64 a0_0, .slice (some ad402) l0_1.length c0_1] 28 (0, 0)) (by exact BK400.out)) : gb403 ≠ gb400)); clear BK400; clear HB; have BK400 := n0_; have HB := n1_; have BK403 := n2_; have GW403 := n3_; have GE403 := n4_; have NB400_403 := n5_; have NB403_400 := n6_; clear n0_ n1_ n2_ n3_ n4_ n5_ n6_; clear hb hbox hg; have hnb27 := NB403_400.out; have hnc27 := NB400_403.out; have hcz28_0 : w26.cell? ⟨gb403, 0, none⟩ = some (.slice none 0 0) := (blk_cell BK403.out 0).trans rfl; have hcz28_1 : w26.cell? ⟨gb403, 1, none⟩ = some (.int .i64 0) := (blk_cell BK403.out 1).trans rfl; have hfz28_0 := blk_frozen BK403.out 0; have hfz28_1 := blk_frozen BK403.out 1))
                         have n0_ : Aside0 (((w26.setCell ⟨gb403, 0, none⟩ (.slice A402_0 ((rd_T65 l0_1 x18_2).f0).length c402_0)).setCell ⟨gb403, 1, none⟩ (.int .i64 ((rd_T65 l0_1 x18_2).f1))).heap[gb400]? = some (.cells #[.int .i64 a0_0, .slice (some ad402) l0_1.length c0_1] 28 (0, 0))) := ⟨by (with_reducible repeat (refine blk_drew ?_)); refine blk_far ?_ NB400_403.out _; (with_reducible repeat (refine blk_drew ?_)); refine blk_far ?_ NB400_403.out _; (with_reducible repeat (refine blk_drew ?_)); exact BK400.out⟩
                         have n1_ : Aside0 (((w26.setCell ⟨gb403, 0, none⟩ (.slice A402_0 ((rd_T65 l0_1 x18_2).f0).length c402_0)).setCell ⟨gb403, 1, none⟩ (.int .i64 ((rd_T65 l0_1 x18_2).f1))).heap[gb403]? = some (.cells #[.slice A402_0 ((rd_T65 l0_1 x18_2).f0).length c402_0, .int .i64 ((rd_T65 l0_1 x18_2).f1)] 65 (0, 0))) := ⟨by (with_reducible repeat (refine blk_drew ?_)); refine blk_put (cs := #[.slice A402_0 ((rd_T65 l0_1 x18_2).f0).length c402_0, .int .i64 0]) ?_ 1 _ rfl; (with_reducible repeat (refine blk_drew ?_)); refine blk_put (cs := #[.slice none 0 0, .int .i64 0]) ?_ 0 _ rfl; (with_reducible repeat (refine blk_drew ?_)); exact BK403.out⟩
                         have n2_ : Aside0 (Below w.heap.size w ((w26.setCell ⟨gb403, 0, none⟩ (.slice A402_0 ((rd_T65 l0_1 x18_2).f0).length c402_0)).setCell ⟨gb403, 1, none⟩ (.int .i64 ((rd_T65 l0_1 x18_2).f1)))) := ⟨by repeat ((with_reducible first | exact HB.out | refine below_set ?_ GE403.out))⟩
                         (try clear BK400)
                         (try clear BK403)
                         (try clear HB)
                         generalize ((w26.setCell ⟨gb403, 0, none⟩ (.slice A402_0 ((rd_T65 l0_1 x18_2).f0).length c402_0)).setCell ⟨gb403, 1, none⟩ (.int .i64 ((rd_T65 l0_1 x18_2).f1))) = w29 at n0_ n1_ n2_ ⊢
                         have BK400 := n0_
                         have BK403 := n1_
                         have HB := n2_
                         clear n0_ n1_ n2_
                         have n0_ := am (blk_drew BK400.out)
                         have n1_ := am (blk_drew BK403.out)
                         have n2_ := am (below_drew1 HB.out)
                         clear BK400
                         clear BK403
                         clear HB
                         have BK400 := n0_
                         have BK403 := n1_
                         have HB := n2_
                         clear n0_ n1_ n2_
                         have p406 : 0 ≤ ((ji21) : Int) := of_decide_eq_true (by (with_reducible assumption))
                         have q406 : (ji21) < (l0_1.length : Int) := of_decide_eq_true (by (with_reducible assumption))
                         obtain ⟨ad406, A406_0, c406_0, e406, hx406_0, hx406_1, hl406_0, hi406_0⟩ := at_T65 HR0_1.out (ji21) p406 q406
                         have hw406_1 := hx406_1
                         have hw406_0 := hx406_0
                         obtain rfl : ad402 = ad406 := (by injection e406)
                         replace hx406_0 := (HB.out.cell (World.block_lt_of_cell? w _ hx406_0)).trans hx406_0
                         replace hx406_1 := (HB.out.cell (World.block_lt_of_cell? w _ hx406_1)).trans hx406_1
                         have HR406_0 := am hi406_0
                         have HC406_0 := am hl406_0
                         clear hi406_0 hl406_0
                         replace p406 := eq_true p406
                         replace q406 := eq_true q406
                         refine start_ (n := 30) (S := fun w' => w'.cell? ⟨gb403, 0, none⟩ = some (.slice A402_0 ((rd_T65 l0_1 x18_2).f0).length c402_0) ∧ w'.cell? ⟨gb403, 1, none⟩ = some (.int .i64 ((rd_T65 l0_1 x18_2).f1)) ∧ w'.cell? ⟨gb400, 0, none⟩ = some (.int .i64 a0_0) ∧ w'.cell? ⟨gb400, 1, none⟩ = some (.slice (some ad402) l0_1.length c0_1) ∧ w'.cell? (ad402.add (((ji21)).toNat * 2)) = some (.slice A406_0 ((rd_T65 l0_1 (ji21)).f0).length c406_0) ∧ w'.cell? ⟨(ad402.add (((ji21)).toNat * 2)).block, (ad402.add (((ji21)).toNat * 2)).off + 1, none⟩ = some (.int .i64 ((rd_T65 l0_1 (ji21)).f1))) (ds := []) (bs 0 30) (by kernel_rfl) rfl rfl ⟨(blk_cell BK403.out 0).trans rfl, (blk_cell BK403.out 1).trans rfl, (blk_cell BK400.out 0).trans rfl, (blk_cell BK400.out 1).trans rfl, ((HB.out.cell (World.block_lt_of_cell? w _ hw406_0)).trans hw406_0), ((HB.out.cell (World.block_lt_of_cell? w _ hw406_1)).trans hw406_1)⟩ (fun hHeld => ?_); refine with_tabW impl_IsSum.tab6 impl_IsSum.bits6 (fun HT_ HW_ => ?_)
                         generalize w29.drew = w30 at BK400 BK403 HB HR406_0 hx406_0 hx406_1 hHeld ⊢
                         refine pure_ (i := 0) (N := some 23) (v := ?_) (a' := ?_) (bs 1 30) rfl rfl (any_of HT_.out (by kernel_rfl)) (fun _ _ _ h => h) (Or.inl ⟨by rfl, ?_⟩) ?_ ?_; rotate_left; intro w'; go_simp; with_reducible rfl; rotate_left; simp only [Act.put, q1, q2, q3, i64_w, i32_w]; rfl
                         refine take_ (i := 1) (N := some 24) (v := ?_) (a' := ?_) (bs 3 30) rfl rfl (take_ofW HT_.out HW_.out (by kernel_rfl)) (fun _ _ _ h => h) (Or.inl ⟨by rfl, ?_⟩) hHeld ?_ ?_; rotate_left; rintro w' ⟨s0, s1, s2, s3, s4, s5⟩; go_simp; with_reducible rfl; rotate_left; simp only [Act.put, q1, q2, q3, i64_w, i32_w]; rfl
                         refine one_ (i := 2) (N := some 25) (bs 7 30) rfl rfl (one_of HT_.out (by kernel_rfl)) (by decide) (fun K hK => ?_)
                         refine goes_ Try.func80 (by kernel_rfl) rfl #[.slice A402_0 ((rd_T65 l0_1 x18_2).f0).length c402_0] (by rfl) rfl rfl (by (try simp only [List.map_toArray, List.map_cons, List.map_nil]); rfl) ?_
                         with_reducible refine (impl_IsWord.calls k2 _ _ ((rd_T65 l0_1 x18_2).f0) true _ ?side1 ?side2 A16.out).mono ?_
                         (case side1 => repeat (exact (Kd.C_below HR402_0.out HB.out)))
                         (case side2 => exact HC402_0.out)
                         rintro e w31 ⟨rfl, hb⟩
                         refine ⟨_, rfl, ?_⟩
                         have n0_ := am (blk_below (g := gb400) (o := .cells #[.int .i64 a0_0, .slice (some ad402) l0_1.length c0_1] 28 (0, 0)) (by exact BK400.out) hb)
                         have n1_ := am (blk_below (g := gb403) (o := .cells #[.slice A402_0 ((rd_T65 l0_1 x18_2).f0).length c402_0, .int .i64 ((rd_T65 l0_1 x18_2).f1)] 65 (0, 0)) (by exact BK403.out) hb)
                         have n2_ := am (below_step (by repeat ((with_reducible exact HB.out))) hb)
                         clear BK400
                         clear BK403
                         clear HB
                         have BK400 := n0_
                         have BK403 := n1_
                         have HB := n2_
                         clear n0_ n1_ n2_
                         (try clear hb)
                         (try clear hb2)
                         (try clear hk)
                         (try clear hi)
                         refine hK.out _ _ ⟨(blk_cell BK403.out 0).trans rfl, (blk_cell BK403.out 1).trans rfl, (blk_cell BK400.out 0).trans rfl, (blk_cell BK400.out 1).trans rfl, ((HB.out.cell (World.block_lt_of_cell? w _ hw406_0)).trans hw406_0), ((HB.out.cell (World.block_lt_of_cell? w _ hw406_1)).trans hw406_1)⟩ (fun hHeld => ?_)
                         clear hK K
                         refine norm_ (a' := ?_) ?_ ?_; rotate_left; show Act.put _ (some 25) _ = _; simp only [Act.put, q1, q2, q3, i64_w, i32_w]; rfl
                         refine pure_ (i := 3) (N := some 26) (v := ?_) (a' := ?_) (bs 15 30) rfl rfl (any_of HT_.out (by kernel_rfl)) (fun _ _ _ h => h) (Or.inl ⟨by rfl, ?_⟩) ?_ ?_; rotate_left; intro w'; go_simp; with_reducible rfl; rotate_left; simp only [Act.put, q1, q2, q3, i64_w, i32_w]; rfl
                         refine pure_ (i := 4) (N := some 27) (v := ?_) (a' := ?_) (bs 31 30) rfl rfl (any_of HT_.out (by kernel_rfl)) (fun _ _ _ h => h) (Or.inl ⟨by rfl, ?_⟩) ?_ ?_; rotate_left; intro w'; go_simp; with_reducible rfl; rotate_left; simp only [Act.put, q1, q2, q3, i64_w, i32_w]; rfl
                         refine pure_ (i := 5) (N := some 28) (v := ?_) (a' := ?_) (bs 63 30) rfl rfl (any_of HT_.out (by kernel_rfl)) (fun _ _ _ h => h) (Or.inl ⟨by rfl, ?_⟩) ?_ ?_; rotate_left; intro w'; go_simp; with_reducible rfl; rotate_left; simp only [Act.put, q1, q2, q3, i64_w, i32_w]; rfl
                         refine pure_ (i := 7) (N := some 30) (v := ?_) (a' := ?_) (bs 191 30) rfl rfl (any_of HT_.out (by kernel_rfl)) (fun _ _ _ h => h) (Or.inl ⟨by rfl, ?_⟩) ?_ ?_; rotate_left; intro w'; go_simp; with_reducible rfl; rotate_left; simp only [Act.put, q1, q2, q3, i64_w, i32_w]; rfl
                         refine take_ (i := 6) (N := some 29) (v := ?_) (a' := ?_) (bs 255 30) rfl rfl (take_ofW HT_.out HW_.out (by kernel_rfl)) (fun _ _ _ h => h) (Or.inl ⟨by rfl, ?_⟩) hHeld ?_ ?_; rotate_left; rintro w' ⟨s0, s1, s2, s3, s4, s5⟩; go_simp; with_reducible rfl; rotate_left; simp only [Act.put, q1, q2, q3, i64_w, i32_w]; rfl
                         refine take_ (i := 8) (N := some 31) (v := ?_) (a' := ?_) (bs 511 30) rfl rfl (take_ofW HT_.out HW_.out (by kernel_rfl)) (fun _ _ _ h => h) (Or.inl ⟨by rfl, ?_⟩) hHeld ?_ ?_; rotate_left; rintro w' ⟨s0, s1, s2, s3, s4, s5⟩; go_simp; with_reducible rfl; rotate_left; simp only [Act.put, q1, q2, q3, i64_w, i32_w]; rfl
                         refine pure_ (i := 9) (N := some 32) (v := ?_) (a' := ?_) (bs 1023 30) rfl rfl (any_of HT_.out (by kernel_rfl)) (fun _ _ _ h => h) (Or.inl ⟨by rfl, ?_⟩) ?_ ?_; rotate_left; intro w'; go_simp; with_reducible rfl; rotate_left; simp only [Act.put, q1, q2, q3, i64_w, i32_w]; rfl
                         refine one_ (i := 10) (N := some 33) (bs 2047 30) rfl rfl (one_of HT_.out (by kernel_rfl)) (by decide) (fun K hK => ?_)
                         refine goes_ Try.func71 (by kernel_rfl) rfl #[.int .i64 ((rd_T65 l0_1 x18_2).f1), .int .i64 1, .int .i64 (wrap64 (a0_0 - 1))] (by rfl) rfl rfl (by (try simp only [List.map_toArray, List.map_cons, List.map_nil]); rfl) ?_
                         with_reducible refine (impl_in.calls ((rd_T65 l0_1 x18_2).f1) 1 (wrap64 (a0_0 - 1)) true _ A18.out).mono ?_
                         rintro e w' ⟨rfl, ⟨nd, rfl⟩⟩
                         refine ⟨_, rfl, ?_⟩
                         refine hK.out _ _ ⟨(blk_cell BK403.out 0).trans rfl, (blk_cell BK403.out 1).trans rfl, (blk_cell BK400.out 0).trans rfl, (blk_cell BK400.out 1).trans rfl, ((HB.out.cell (World.block_lt_of_cell? w _ hw406_0)).trans hw406_0), ((HB.out.cell (World.block_lt_of_cell? w _ hw406_1)).trans hw406_1)⟩ (fun hHeld => ?_)
                         clear hK K
                         refine norm_ (a' := ?_) ?_ ?_; rotate_left; show Act.put _ (some 33) _ = _; simp only [Act.put, q1, q2, q3, i64_w, i32_w]; rfl
                         refine pure_ (i := 11) (N := some 34) (v := ?_) (a' := ?_) (bs 4095 30) rfl rfl (any_of HT_.out (by kernel_rfl)) (fun _ _ _ h => h) (Or.inl ⟨by rfl, ?_⟩) ?_ ?_; rotate_left; intro w'; go_simp; with_reducible rfl; rotate_left; simp only [Act.put, q1, q2, q3, i64_w, i32_w]; rfl
                         refine pure_ (i := 12) (N := some 35) (v := ?_) (a' := ?_) (bs 8191 30) rfl rfl (any_of HT_.out (by kernel_rfl)) (fun _ _ _ h => h) (Or.inl ⟨by rfl, ?_⟩) ?_ ?_; rotate_left; intro w'; go_simp; with_reducible rfl; rotate_left; simp only [Act.put, q1, q2, q3, i64_w, i32_w]; rfl
                         refine pure_ (i := 13) (N := some 36) (v := ?_) (a' := ?_) (bs 16383 30) rfl rfl (any_of HT_.out (by kernel_rfl)) (fun _ _ _ h => h) (Or.inl ⟨by rfl, ?_⟩) ?_ ?_; rotate_left; intro w'; go_simp; with_reducible rfl; rotate_left; simp only [Act.put, q1, q2, q3, i64_w, i32_w]; rfl
                         refine pure_ (i := 14) (N := some 37) (v := ?_) (a' := ?_) (bs 32767 30) rfl rfl (any_of HT_.out (by kernel_rfl)) (fun _ _ _ h => h) (Or.inl ⟨by rfl, ?_⟩) ?_ ?_; rotate_left; intro w'; go_simp; with_reducible rfl; rotate_left; simp only [Act.put, q1, q2, q3, i64_w, i32_w]; rfl
                         refine pure_ (i := 15) (N := some 38) (v := ?_) (a' := ?_) (bs 65535 30) rfl rfl (any_of HT_.out (by kernel_rfl)) (fun _ _ _ h => h) (Or.inl ⟨by rfl, ?_⟩) ?_ ?_; rotate_left; intro w'; go_simp; with_reducible rfl; rotate_left; simp only [Act.put, q1, q2, q3, i64_w, i32_w]; rfl
                         refine pure_ (i := 16) (N := some 39) (v := ?_) (a' := ?_) (bs 131071 30) rfl rfl (any_of HT_.out (by kernel_rfl)) (fun _ _ _ h => h) (Or.inl ⟨by rfl, ?_⟩) ?_ ?_; rotate_left; intro w'; go_simp; with_reducible rfl; rotate_left; simp only [Act.put, q1, q2, q3, i64_w, i32_w]; rfl
                         refine pure_ (i := 17) (N := some 40) (v := ?_) (a' := ?_) (bs 262143 30) rfl rfl (any_of HT_.out (by kernel_rfl)) (fun _ _ _ h => h) (Or.inl ⟨by rfl, ?_⟩) ?_ ?_; rotate_left; intro w'; go_simp; with_reducible rfl; rotate_left; simp only [Act.put, q1, q2, q3, i64_w, i32_w]; rfl
                         refine pure_ (i := 19) (N := some 42) (v := ?_) (a' := ?_) (bs 786431 30) rfl rfl (any_of HT_.out (by kernel_rfl)) (fun _ _ _ h => h) (Or.inl ⟨by rfl, ?_⟩) ?_ ?_; rotate_left; intro w'; go_simp; with_reducible rfl; rotate_left; simp only [Act.put, q1, q2, q3, i64_w, i32_w]; rfl
                         refine pure_ (i := 20) (N := some 43) (v := ?_) (a' := ?_) (bs 1835007 30) rfl rfl (any_of HT_.out (by kernel_rfl)) (fun _ _ _ h => h) (Or.inl ⟨by rfl, ?_⟩) ?_ ?_; rotate_left; intro w'; go_simp; with_reducible rfl; rotate_left; simp only [Act.put, q1, q2, q3, i64_w, i32_w]; rfl
                         refine pure_ (i := 24) (N := some 47) (v := ?_) (a' := ?_) (bs 18612223 30) rfl rfl (any_of HT_.out (by kernel_rfl)) (fun _ _ _ h => h) (Or.inl ⟨by rfl, ?_⟩) ?_ ?_; rotate_left; intro w'; go_simp; with_reducible rfl; rotate_left; simp only [Act.put, q1, q2, q3, i64_w, i32_w]; rfl
                         refine take_ (i := 18) (N := some 41) (v := ?_) (a' := ?_) (bs 18874367 30) rfl rfl (take_ofW HT_.out HW_.out (by kernel_rfl)) (fun _ _ _ h => h) (Or.inl ⟨by rfl, ?_⟩) hHeld ?_ ?_; rotate_left; rintro w' ⟨s0, s1, s2, s3, s4, s5⟩; go_simp; with_reducible rfl; rotate_left; simp only [Act.put, q1, q2, q3, i64_w, i32_w]; rfl
                         refine pure_ (i := 21) (N := some 44) (v := ?_) (a' := ?_) (bs 20971519 30) rfl rfl (any_of HT_.out (by kernel_rfl)) (fun _ _ _ h => h) (Or.inl ⟨by rfl, ?_⟩) ?_ ?_; rotate_left; intro w'; go_simp; with_reducible rfl; rotate_left; simp only [Act.put, q1, q2, q3, i64_w, i32_w]; rfl
                         refine pure_ (i := 22) (N := some 45) (v := ?_) (a' := ?_) (bs 25165823 30) rfl rfl (any_of HT_.out (by kernel_rfl)) (fun _ _ _ h => h) (Or.inl ⟨by rfl, ?_⟩) ?_ ?_; rotate_left; intro w'; go_simp; with_reducible rfl; rotate_left; simp only [Act.put, q1, q2, q3, i64_w, i32_w]; rfl
                         refine take_ (i := 23) (N := some 46) (v := ?_) (a' := ?_) (bs 33554431 30) rfl rfl (take_ofW HT_.out HW_.out (by kernel_rfl)) (fun _ _ _ h => h) (Or.inl ⟨by rfl, ?_⟩) hHeld ?_ ?_; rotate_left; rintro w' ⟨s0, s1, s2, s3, s4, s5⟩; go_simp; with_reducible rfl; rotate_left; simp only [Act.put, q1, q2, q3, i64_w, i32_w]; rfl
                         refine take_ (i := 25) (N := some 48) (v := ?_) (a' := ?_) (bs 67108863 30) rfl rfl (take_ofW HT_.out HW_.out (by kernel_rfl)) (fun _ _ _ h => h) (Or.inl ⟨by rfl, ?_⟩) hHeld ?_ ?_; rotate_left; rintro w' ⟨s0, s1, s2, s3, s4, s5⟩; go_simp; with_reducible rfl; rotate_left; simp only [Act.put, q1, q2, q3, i64_w, i32_w]; rfl
                         refine one_ (i := 26) (N := some 49) (bs 134217727 30) rfl rfl (one_of HT_.out (by kernel_rfl)) (by decide) (fun K hK => ?_)
                         refine goes_ Try.func81 (by kernel_rfl) rfl #[.slice A406_0 ((rd_T65 l0_1 (ji21)).f0).length c406_0, .slice A402_0 ((rd_T65 l0_1 x18_2).f0).length c402_0] (by rfl) rfl rfl (by (try simp only [List.map_toArray, List.map_cons, List.map_nil]); rfl) ?_
                         with_reducible refine (impl_wordOrder.calls k2 _ _ ((rd_T65 l0_1 (ji21)).f0) _ _ ((rd_T65 l0_1 x18_2).f0) t407 _ ?side1 ?side2 ?side3 ?side4 A24.out).mono ?_
                         (case side1 => repeat (exact (Kd.C_below HR406_0.out (by repeat ((with_reducible first | exact HB.out | apply pw_below_drewN))))))
                         (case side2 => exact HC406_0.out)
                         (case side3 => repeat (exact (Kd.C_below HR402_0.out (by repeat ((with_reducible first | exact HB.out | apply pw_below_drewN))))))
                         (case side4 => exact HC402_0.out)
                         rintro e w32 ⟨rfl, hb⟩
                         refine ⟨_, rfl, ?_⟩
                         have n0_ := am (blk_below (g := gb400) (o := .cells #[.int .i64 a0_0, .slice (some ad402) l0_1.length c0_1] 28 (0, 0)) (by (with_reducible repeat (refine blk_drewN ?_ _)); exact BK400.out) hb)
                         have n1_ := am (blk_below (g := gb403) (o := .cells #[.slice A402_0 ((rd_T65 l0_1 x18_2).f0).length c402_0, .int .i64 ((rd_T65 l0_1 x18_2).f1)] 65 (0, 0)) (by (with_reducible repeat (refine blk_drewN ?_ _)); exact BK403.out) hb)
                         have n2_ := am (below_step (by repeat ((with_reducible first | exact HB.out | apply pw_below_drewN))) hb)
                         clear BK400
                         clear BK403
                         clear HB
                         have BK400 := n0_
                         have BK403 := n1_
                         have HB := n2_
                         clear n0_ n1_ n2_
                         (try clear hb)
                         (try clear hb2)
                         (try clear hk)
                         (try clear hi)
                         refine hK.out _ _ ⟨(blk_cell BK403.out 0).trans rfl, (blk_cell BK403.out 1).trans rfl, (blk_cell BK400.out 0).trans rfl, (blk_cell BK400.out 1).trans rfl, ((HB.out.cell (World.block_lt_of_cell? w _ hw406_0)).trans hw406_0), ((HB.out.cell (World.block_lt_of_cell? w _ hw406_1)).trans hw406_1)⟩ (fun hHeld => ?_)
                         clear hK K
                         refine norm_ (a' := ?_) ?_ ?_; rotate_left; show Act.put _ (some 49) _ = _; simp only [Act.put, q1, q2, q3, i64_w, i32_w]; rfl
                         refine pure_ (i := 27) (N := some 50) (v := ?_) (a' := ?_) (bs 268435455 30) rfl rfl (any_of HT_.out (by kernel_rfl)) (fun _ _ _ h => h) (Or.inl ⟨by rfl, ?_⟩) ?_ ?_; rotate_left; intro w'; go_simp; with_reducible rfl; rotate_left; simp only [Act.put, q1, q2, q3, i64_w, i32_w]; rfl
                         refine pure_ (i := 28) (N := some 51) (v := ?_) (a' := ?_) (bs 536870911 30) rfl rfl (any_of HT_.out (by kernel_rfl)) (fun _ _ _ h => h) (Or.inl ⟨by rfl, ?_⟩) ?_ ?_; rotate_left; intro w'; go_simp; with_reducible rfl; rotate_left; simp only [Act.put, q1, q2, q3, i64_w, i32_w]; rfl
                         refine pure_ (i := 29) (N := some 52) (v := ?_) (a' := ?_) (bs 1073741823 30) rfl rfl (any_of HT_.out (by kernel_rfl)) (fun _ _ _ h => h) (Or.inl ⟨by rfl, ?_⟩) ?_ ?_; rotate_left; intro w'; go_simp; with_reducible rfl; rotate_left; simp only [Act.put, q1, q2, q3, i64_w, i32_w]; rfl
                         refine done_ (done_of HT_.out (by kernel_rfl)) ?_
                         try go_wp2
                         go_ret
                         exact ⟨by rfl, by repeat ((with_reducible exact HB.out))⟩
                       · rw [if_neg c25] at H
                         have c25b0 : decide (0 ≤ t407) = false := decide_eq_false c25
                         clear c25
                         have H' := am H
                         clear H
                         have p402 : 0 ≤ (x18_2 : Int) := of_decide_eq_true (by (with_reducible assumption))
                         have q402 : x18_2 < (l0_1.length : Int) := of_decide_eq_true (by (with_reducible assumption))
                         obtain ⟨ad402, A402_0, c402_0, e402, hx402_0, hx402_1, hl402_0, hi402_0⟩ := at_T65 HR0_1.out x18_2 p402 q402
                         cases e402
                         replace hx402_0 := (HB.out.cell (World.block_lt_of_cell? w _ hx402_0)).trans hx402_0
                         replace hx402_1 := (HB.out.cell (World.block_lt_of_cell? w _ hx402_1)).trans hx402_1
                         have HR402_0 := am hi402_0
                         have HC402_0 := am hl402_0
                         clear hi402_0 hl402_0
                         replace p402 := eq_true p402
                         replace q402 := eq_true q402
                         try go_wp2_with (((with_reducible refine gate_dst (N := 4) rfl ?_); (try (refine gate_guard (by rfl) ?_; dsimp only)); refine box_event ?hg (N := 4) ?hd (cs := #[.slice none 0 0, .int .i64 0]) (t := 65) ?hr ?_; (case hd => rfl); (case hg => rfl); (case hr => (go_simp; done)); intro gb403 hg w33 hbox hb; have n0_ := am (blk_below (g := gb400) (o := .cells #[.int .i64 a0_0, .slice (some ad402) l0_1.length c0_1] 28 (0, 0)) (by exact BK400.out) hb); have n1_ := am (below_step (by repeat ((with_reducible exact HB.out))) hb); have n2_ := am (hbox); have n3_ := am ((by rw [hg]; exact (below_size (by repeat ((with_reducible exact HB.out)))) : w.heap.size ≤ gb403)); have n4_ := am ((by rw [hg]; exact (below_size (by repeat ((with_reducible exact HB.out)))) : w.heap.size ≤ gb403)); have n5_ := am ((by rw [hg]; exact Nat.ne_of_lt (blk_lt (g := gb400) (o := .cells #[.int .i64 a0_0, .slice (some ad402) l0_1.length c0_1] 28 (0, 0)) (by exact BK400.out)) : gb400 ≠ gb403)); have n6_ := am ((by rw [hg]; exact Nat.ne_of_gt (blk_lt (g := gb400) (o := .cells #[.int .i64 a0_0, .slice (some ad402) l0_1.length c0_1] 28 (0, 0)) (by exact BK400.out)) : gb403 ≠ gb400)); clear BK400; clear HB; have BK400 := n0_; have HB := n1_; have BK403 := n2_; have GW403 := n3_; have GE403 := n4_; have NB400_403 := n5_; have NB403_400 := n6_; clear n0_ n1_ n2_ n3_ n4_ n5_ n6_; clear hb hbox hg; have hnb34 := NB403_400.out; have hnc34 := NB400_403.out; have hcz35_0 : w33.cell? ⟨gb403, 0, none⟩ = some (.slice none 0 0) := (blk_cell BK403.out 0).trans rfl; have hcz35_1 : w33.cell? ⟨gb403, 1, none⟩ = some (.int .i64 0) := (blk_cell BK403.out 1).trans rfl; have hfz35_0 := blk_frozen BK403.out 0; have hfz35_1 := blk_frozen BK403.out 1))
                         have n0_ : Aside0 (((w33.setCell ⟨gb403, 0, none⟩ (.slice A402_0 ((rd_T65 l0_1 x18_2).f0).length c402_0)).setCell ⟨gb403, 1, none⟩ (.int .i64 ((rd_T65 l0_1 x18_2).f1))).heap[gb400]? = some (.cells #[.int .i64 a0_0, .slice (some ad402) l0_1.length c0_1] 28 (0, 0))) := ⟨by (with_reducible repeat (refine blk_drew ?_)); refine blk_far ?_ NB400_403.out _; (with_reducible repeat (refine blk_drew ?_)); refine blk_far ?_ NB400_403.out _; (with_reducible repeat (refine blk_drew ?_)); exact BK400.out⟩
                         have n1_ : Aside0 (((w33.setCell ⟨gb403, 0, none⟩ (.slice A402_0 ((rd_T65 l0_1 x18_2).f0).length c402_0)).setCell ⟨gb403, 1, none⟩ (.int .i64 ((rd_T65 l0_1 x18_2).f1))).heap[gb403]? = some (.cells #[.slice A402_0 ((rd_T65 l0_1 x18_2).f0).length c402_0, .int .i64 ((rd_T65 l0_1 x18_2).f1)] 65 (0, 0))) := ⟨by (with_reducible repeat (refine blk_drew ?_)); refine blk_put (cs := #[.slice A402_0 ((rd_T65 l0_1 x18_2).f0).length c402_0, .int .i64 0]) ?_ 1 _ rfl; (with_reducible repeat (refine blk_drew ?_)); refine blk_put (cs := #[.slice none 0 0, .int .i64 0]) ?_ 0 _ rfl; (with_reducible repeat (refine blk_drew ?_)); exact BK403.out⟩
                         have n2_ : Aside0 (Below w.heap.size w ((w33.setCell ⟨gb403, 0, none⟩ (.slice A402_0 ((rd_T65 l0_1 x18_2).f0).length c402_0)).setCell ⟨gb403, 1, none⟩ (.int .i64 ((rd_T65 l0_1 x18_2).f1)))) := ⟨by repeat ((with_reducible first | exact HB.out | refine below_set ?_ GE403.out))⟩
                         (try clear BK400)
                         (try clear BK403)
                         (try clear HB)
                         generalize ((w33.setCell ⟨gb403, 0, none⟩ (.slice A402_0 ((rd_T65 l0_1 x18_2).f0).length c402_0)).setCell ⟨gb403, 1, none⟩ (.int .i64 ((rd_T65 l0_1 x18_2).f1))) = w36 at n0_ n1_ n2_ ⊢
                         have BK400 := n0_
                         have BK403 := n1_
                         have HB := n2_
                         clear n0_ n1_ n2_
                         have n0_ := am (blk_drew BK400.out)
                         have n1_ := am (blk_drew BK403.out)
                         have n2_ := am (below_drew1 HB.out)
                         clear BK400
                         clear BK403
                         clear HB
                         have BK400 := n0_
                         have BK403 := n1_
                         have HB := n2_
                         clear n0_ n1_ n2_
                         have p406 : 0 ≤ ((ji21) : Int) := of_decide_eq_true (by (with_reducible assumption))
                         have q406 : (ji21) < (l0_1.length : Int) := of_decide_eq_true (by (with_reducible assumption))
                         obtain ⟨ad406, A406_0, c406_0, e406, hx406_0, hx406_1, hl406_0, hi406_0⟩ := at_T65 HR0_1.out (ji21) p406 q406
                         have hw406_1 := hx406_1
                         have hw406_0 := hx406_0
                         obtain rfl : ad402 = ad406 := (by injection e406)
                         replace hx406_0 := (HB.out.cell (World.block_lt_of_cell? w _ hx406_0)).trans hx406_0
                         replace hx406_1 := (HB.out.cell (World.block_lt_of_cell? w _ hx406_1)).trans hx406_1
                         have HR406_0 := am hi406_0
                         have HC406_0 := am hl406_0
                         clear hi406_0 hl406_0
                         replace p406 := eq_true p406
                         replace q406 := eq_true q406
                         refine start_ (n := 30) (S := fun w' => w'.cell? ⟨gb403, 0, none⟩ = some (.slice A402_0 ((rd_T65 l0_1 x18_2).f0).length c402_0) ∧ w'.cell? ⟨gb403, 1, none⟩ = some (.int .i64 ((rd_T65 l0_1 x18_2).f1)) ∧ w'.cell? ⟨gb400, 0, none⟩ = some (.int .i64 a0_0) ∧ w'.cell? ⟨gb400, 1, none⟩ = some (.slice (some ad402) l0_1.length c0_1) ∧ w'.cell? (ad402.add (((ji21)).toNat * 2)) = some (.slice A406_0 ((rd_T65 l0_1 (ji21)).f0).length c406_0) ∧ w'.cell? ⟨(ad402.add (((ji21)).toNat * 2)).block, (ad402.add (((ji21)).toNat * 2)).off + 1, none⟩ = some (.int .i64 ((rd_T65 l0_1 (ji21)).f1))) (ds := []) (bs 0 30) (by kernel_rfl) rfl rfl ⟨(blk_cell BK403.out 0).trans rfl, (blk_cell BK403.out 1).trans rfl, (blk_cell BK400.out 0).trans rfl, (blk_cell BK400.out 1).trans rfl, ((HB.out.cell (World.block_lt_of_cell? w _ hw406_0)).trans hw406_0), ((HB.out.cell (World.block_lt_of_cell? w _ hw406_1)).trans hw406_1)⟩ (fun hHeld => ?_); refine with_tabW impl_IsSum.tab6 impl_IsSum.bits6 (fun HT_ HW_ => ?_)
                         generalize w36.drew = w37 at BK400 BK403 HB HR406_0 hx406_0 hx406_1 hHeld ⊢
                         refine pure_ (i := 0) (N := some 23) (v := ?_) (a' := ?_) (bs 1 30) rfl rfl (any_of HT_.out (by kernel_rfl)) (fun _ _ _ h => h) (Or.inl ⟨by rfl, ?_⟩) ?_ ?_; rotate_left; intro w'; go_simp; with_reducible rfl; rotate_left; simp only [Act.put, q1, q2, q3, i64_w, i32_w]; rfl
                         refine take_ (i := 1) (N := some 24) (v := ?_) (a' := ?_) (bs 3 30) rfl rfl (take_ofW HT_.out HW_.out (by kernel_rfl)) (fun _ _ _ h => h) (Or.inl ⟨by rfl, ?_⟩) hHeld ?_ ?_; rotate_left; rintro w' ⟨s0, s1, s2, s3, s4, s5⟩; go_simp; with_reducible rfl; rotate_left; simp only [Act.put, q1, q2, q3, i64_w, i32_w]; rfl
                         refine one_ (i := 2) (N := some 25) (bs 7 30) rfl rfl (one_of HT_.out (by kernel_rfl)) (by decide) (fun K hK => ?_)
                         refine goes_ Try.func80 (by kernel_rfl) rfl #[.slice A402_0 ((rd_T65 l0_1 x18_2).f0).length c402_0] (by rfl) rfl rfl (by (try simp only [List.map_toArray, List.map_cons, List.map_nil]); rfl) ?_
                         with_reducible refine (impl_IsWord.calls k2 _ _ ((rd_T65 l0_1 x18_2).f0) true _ ?side1 ?side2 A16.out).mono ?_
                         (case side1 => repeat (exact (Kd.C_below HR402_0.out HB.out)))
                         (case side2 => exact HC402_0.out)
                         rintro e w38 ⟨rfl, hb⟩
                         refine ⟨_, rfl, ?_⟩
                         have n0_ := am (blk_below (g := gb400) (o := .cells #[.int .i64 a0_0, .slice (some ad402) l0_1.length c0_1] 28 (0, 0)) (by exact BK400.out) hb)
                         have n1_ := am (blk_below (g := gb403) (o := .cells #[.slice A402_0 ((rd_T65 l0_1 x18_2).f0).length c402_0, .int .i64 ((rd_T65 l0_1 x18_2).f1)] 65 (0, 0)) (by exact BK403.out) hb)
                         have n2_ := am (below_step (by repeat ((with_reducible exact HB.out))) hb)
                         clear BK400
                         clear BK403
                         clear HB
                         have BK400 := n0_
                         have BK403 := n1_
                         have HB := n2_
                         clear n0_ n1_ n2_
                         (try clear hb)
                         (try clear hb2)
                         (try clear hk)
                         (try clear hi)
                         refine hK.out _ _ ⟨(blk_cell BK403.out 0).trans rfl, (blk_cell BK403.out 1).trans rfl, (blk_cell BK400.out 0).trans rfl, (blk_cell BK400.out 1).trans rfl, ((HB.out.cell (World.block_lt_of_cell? w _ hw406_0)).trans hw406_0), ((HB.out.cell (World.block_lt_of_cell? w _ hw406_1)).trans hw406_1)⟩ (fun hHeld => ?_)
                         clear hK K
                         refine norm_ (a' := ?_) ?_ ?_; rotate_left; show Act.put _ (some 25) _ = _; simp only [Act.put, q1, q2, q3, i64_w, i32_w]; rfl
                         refine pure_ (i := 3) (N := some 26) (v := ?_) (a' := ?_) (bs 15 30) rfl rfl (any_of HT_.out (by kernel_rfl)) (fun _ _ _ h => h) (Or.inl ⟨by rfl, ?_⟩) ?_ ?_; rotate_left; intro w'; go_simp; with_reducible rfl; rotate_left; simp only [Act.put, q1, q2, q3, i64_w, i32_w]; rfl
                         refine pure_ (i := 4) (N := some 27) (v := ?_) (a' := ?_) (bs 31 30) rfl rfl (any_of HT_.out (by kernel_rfl)) (fun _ _ _ h => h) (Or.inl ⟨by rfl, ?_⟩) ?_ ?_; rotate_left; intro w'; go_simp; with_reducible rfl; rotate_left; simp only [Act.put, q1, q2, q3, i64_w, i32_w]; rfl
                         refine pure_ (i := 5) (N := some 28) (v := ?_) (a' := ?_) (bs 63 30) rfl rfl (any_of HT_.out (by kernel_rfl)) (fun _ _ _ h => h) (Or.inl ⟨by rfl, ?_⟩) ?_ ?_; rotate_left; intro w'; go_simp; with_reducible rfl; rotate_left; simp only [Act.put, q1, q2, q3, i64_w, i32_w]; rfl
                         refine pure_ (i := 7) (N := some 30) (v := ?_) (a' := ?_) (bs 191 30) rfl rfl (any_of HT_.out (by kernel_rfl)) (fun _ _ _ h => h) (Or.inl ⟨by rfl, ?_⟩) ?_ ?_; rotate_left; intro w'; go_simp; with_reducible rfl; rotate_left; simp only [Act.put, q1, q2, q3, i64_w, i32_w]; rfl
                         refine take_ (i := 6) (N := some 29) (v := ?_) (a' := ?_) (bs 255 30) rfl rfl (take_ofW HT_.out HW_.out (by kernel_rfl)) (fun _ _ _ h => h) (Or.inl ⟨by rfl, ?_⟩) hHeld ?_ ?_; rotate_left; rintro w' ⟨s0, s1, s2, s3, s4, s5⟩; go_simp; with_reducible rfl; rotate_left; simp only [Act.put, q1, q2, q3, i64_w, i32_w]; rfl
                         refine take_ (i := 8) (N := some 31) (v := ?_) (a' := ?_) (bs 511 30) rfl rfl (take_ofW HT_.out HW_.out (by kernel_rfl)) (fun _ _ _ h => h) (Or.inl ⟨by rfl, ?_⟩) hHeld ?_ ?_; rotate_left; rintro w' ⟨s0, s1, s2, s3, s4, s5⟩; go_simp; with_reducible rfl; rotate_left; simp only [Act.put, q1, q2, q3, i64_w, i32_w]; rfl
                         refine pure_ (i := 9) (N := some 32) (v := ?_) (a' := ?_) (bs 1023 30) rfl rfl (any_of HT_.out (by kernel_rfl)) (fun _ _ _ h => h) (Or.inl ⟨by rfl, ?_⟩) ?_ ?_; rotate_left; intro w'; go_simp; with_reducible rfl; rotate_left; simp only [Act.put, q1, q2, q3, i64_w, i32_w]; rfl
                         refine one_ (i := 10) (N := some 33) (bs 2047 30) rfl rfl (one_of HT_.out (by kernel_rfl)) (by decide) (fun K hK => ?_)
                         refine goes_ Try.func71 (by kernel_rfl) rfl #[.int .i64 ((rd_T65 l0_1 x18_2).f1), .int .i64 1, .int .i64 (wrap64 (a0_0 - 1))] (by rfl) rfl rfl (by (try simp only [List.map_toArray, List.map_cons, List.map_nil]); rfl) ?_
                         with_reducible refine (impl_in.calls ((rd_T65 l0_1 x18_2).f1) 1 (wrap64 (a0_0 - 1)) true _ A18.out).mono ?_
                         rintro e w' ⟨rfl, ⟨nd, rfl⟩⟩
                         refine ⟨_, rfl, ?_⟩
                         refine hK.out _ _ ⟨(blk_cell BK403.out 0).trans rfl, (blk_cell BK403.out 1).trans rfl, (blk_cell BK400.out 0).trans rfl, (blk_cell BK400.out 1).trans rfl, ((HB.out.cell (World.block_lt_of_cell? w _ hw406_0)).trans hw406_0), ((HB.out.cell (World.block_lt_of_cell? w _ hw406_1)).trans hw406_1)⟩ (fun hHeld => ?_)
                         clear hK K
                         refine norm_ (a' := ?_) ?_ ?_; rotate_left; show Act.put _ (some 33) _ = _; simp only [Act.put, q1, q2, q3, i64_w, i32_w]; rfl
                         refine pure_ (i := 11) (N := some 34) (v := ?_) (a' := ?_) (bs 4095 30) rfl rfl (any_of HT_.out (by kernel_rfl)) (fun _ _ _ h => h) (Or.inl ⟨by rfl, ?_⟩) ?_ ?_; rotate_left; intro w'; go_simp; with_reducible rfl; rotate_left; simp only [Act.put, q1, q2, q3, i64_w, i32_w]; rfl
                         refine pure_ (i := 12) (N := some 35) (v := ?_) (a' := ?_) (bs 8191 30) rfl rfl (any_of HT_.out (by kernel_rfl)) (fun _ _ _ h => h) (Or.inl ⟨by rfl, ?_⟩) ?_ ?_; rotate_left; intro w'; go_simp; with_reducible rfl; rotate_left; simp only [Act.put, q1, q2, q3, i64_w, i32_w]; rfl
                         refine pure_ (i := 13) (N := some 36) (v := ?_) (a' := ?_) (bs 16383 30) rfl rfl (any_of HT_.out (by kernel_rfl)) (fun _ _ _ h => h) (Or.inl ⟨by rfl, ?_⟩) ?_ ?_; rotate_left; intro w'; go_simp; with_reducible rfl; rotate_left; simp only [Act.put, q1, q2, q3, i64_w, i32_w]; rfl
                         refine pure_ (i := 14) (N := some 37) (v := ?_) (a' := ?_) (bs 32767 30) rfl rfl (any_of HT_.out (by kernel_rfl)) (fun _ _ _ h => h) (Or.inl ⟨by rfl, ?_⟩) ?_ ?_; rotate_left; intro w'; go_simp; with_reducible rfl; rotate_left; simp only [Act.put, q1, q2, q3, i64_w, i32_w]; rfl
                         refine pure_ (i := 15) (N := some 38) (v := ?_) (a' := ?_) (bs 65535 30) rfl rfl (any_of HT_.out (by kernel_rfl)) (fun _ _ _ h => h) (Or.inl ⟨by rfl, ?_⟩) ?_ ?_; rotate_left; intro w'; go_simp; with_reducible rfl; rotate_left; simp only [Act.put, q1, q2, q3, i64_w, i32_w]; rfl
                         refine pure_ (i := 16) (N := some 39) (v := ?_) (a' := ?_) (bs 131071 30) rfl rfl (any_of HT_.out (by kernel_rfl)) (fun _ _ _ h => h) (Or.inl ⟨by rfl, ?_⟩) ?_ ?_; rotate_left; intro w'; go_simp; with_reducible rfl; rotate_left; simp only [Act.put, q1, q2, q3, i64_w, i32_w]; rfl
                         refine pure_ (i := 17) (N := some 40) (v := ?_) (a' := ?_) (bs 262143 30) rfl rfl (any_of HT_.out (by kernel_rfl)) (fun _ _ _ h => h) (Or.inl ⟨by rfl, ?_⟩) ?_ ?_; rotate_left; intro w'; go_simp; with_reducible rfl; rotate_left; simp only [Act.put, q1, q2, q3, i64_w, i32_w]; rfl
                         refine pure_ (i := 19) (N := some 42) (v := ?_) (a' := ?_) (bs 786431 30) rfl rfl (any_of HT_.out (by kernel_rfl)) (fun _ _ _ h => h) (Or.inl ⟨by rfl, ?_⟩) ?_ ?_; rotate_left; intro w'; go_simp; with_reducible rfl; rotate_left; simp only [Act.put, q1, q2, q3, i64_w, i32_w]; rfl
                         refine pure_ (i := 20) (N := some 43) (v := ?_) (a' := ?_) (bs 1835007 30) rfl rfl (any_of HT_.out (by kernel_rfl)) (fun _ _ _ h => h) (Or.inl ⟨by rfl, ?_⟩) ?_ ?_; rotate_left; intro w'; go_simp; with_reducible rfl; rotate_left; simp only [Act.put, q1, q2, q3, i64_w, i32_w]; rfl
                         refine pure_ (i := 24) (N := some 47) (v := ?_) (a' := ?_) (bs 18612223 30) rfl rfl (any_of HT_.out (by kernel_rfl)) (fun _ _ _ h => h) (Or.inl ⟨by rfl, ?_⟩) ?_ ?_; rotate_left; intro w'; go_simp; with_reducible rfl; rotate_left; simp only [Act.put, q1, q2, q3, i64_w, i32_w]; rfl
                         refine take_ (i := 18) (N := some 41) (v := ?_) (a' := ?_) (bs 18874367 30) rfl rfl (take_ofW HT_.out HW_.out (by kernel_rfl)) (fun _ _ _ h => h) (Or.inl ⟨by rfl, ?_⟩) hHeld ?_ ?_; rotate_left; rintro w' ⟨s0, s1, s2, s3, s4, s5⟩; go_simp; with_reducible rfl; rotate_left; simp only [Act.put, q1, q2, q3, i64_w, i32_w]; rfl
                         refine pure_ (i := 21) (N := some 44) (v := ?_) (a' := ?_) (bs 20971519 30) rfl rfl (any_of HT_.out (by kernel_rfl)) (fun _ _ _ h => h) (Or.inl ⟨by rfl, ?_⟩) ?_ ?_; rotate_left; intro w'; go_simp; with_reducible rfl; rotate_left; simp only [Act.put, q1, q2, q3, i64_w, i32_w]; rfl
                         refine pure_ (i := 22) (N := some 45) (v := ?_) (a' := ?_) (bs 25165823 30) rfl rfl (any_of HT_.out (by kernel_rfl)) (fun _ _ _ h => h) (Or.inl ⟨by rfl, ?_⟩) ?_ ?_; rotate_left; intro w'; go_simp; with_reducible rfl; rotate_left; simp only [Act.put, q1, q2, q3, i64_w, i32_w]; rfl
                         refine take_ (i := 23) (N := some 46) (v := ?_) (a' := ?_) (bs 33554431 30) rfl rfl (take_ofW HT_.out HW_.out (by kernel_rfl)) (fun _ _ _ h => h) (Or.inl ⟨by rfl, ?_⟩) hHeld ?_ ?_; rotate_left; rintro w' ⟨s0, s1, s2, s3, s4, s5⟩; go_simp; with_reducible rfl; rotate_left; simp only [Act.put, q1, q2, q3, i64_w, i32_w]; rfl
                         refine take_ (i := 25) (N := some 48) (v := ?_) (a' := ?_) (bs 67108863 30) rfl rfl (take_ofW HT_.out HW_.out (by kernel_rfl)) (fun _ _ _ h => h) (Or.inl ⟨by rfl, ?_⟩) hHeld ?_ ?_; rotate_left; rintro w' ⟨s0, s1, s2, s3, s4, s5⟩; go_simp; with_reducible rfl; rotate_left; simp only [Act.put, q1, q2, q3, i64_w, i32_w]; rfl
                         refine one_ (i := 26) (N := some 49) (bs 134217727 30) rfl rfl (one_of HT_.out (by kernel_rfl)) (by decide) (fun K hK => ?_)
                         refine goes_ Try.func81 (by kernel_rfl) rfl #[.slice A406_0 ((rd_T65 l0_1 (ji21)).f0).length c406_0, .slice A402_0 ((rd_T65 l0_1 x18_2).f0).length c402_0] (by rfl) rfl rfl (by (try simp only [List.map_toArray, List.map_cons, List.map_nil]); rfl) ?_
                         with_reducible refine (impl_wordOrder.calls k2 _ _ ((rd_T65 l0_1 (ji21)).f0) _ _ ((rd_T65 l0_1 x18_2).f0) t407 _ ?side1 ?side2 ?side3 ?side4 A24.out).mono ?_
                         (case side1 => repeat (exact (Kd.C_below HR406_0.out (by repeat ((with_reducible first | exact HB.out | apply pw_below_drewN))))))
                         (case side2 => exact HC406_0.out)
                         (case side3 => repeat (exact (Kd.C_below HR402_0.out (by repeat ((with_reducible first | exact HB.out | apply pw_below_drewN))))))
                         (case side4 => exact HC402_0.out)
                         rintro e w39 ⟨rfl, hb⟩
                         refine ⟨_, rfl, ?_⟩
                         have n0_ := am (blk_below (g := gb400) (o := .cells #[.int .i64 a0_0, .slice (some ad402) l0_1.length c0_1] 28 (0, 0)) (by (with_reducible repeat (refine blk_drewN ?_ _)); exact BK400.out) hb)
                         have n1_ := am (blk_below (g := gb403) (o := .cells #[.slice A402_0 ((rd_T65 l0_1 x18_2).f0).length c402_0, .int .i64 ((rd_T65 l0_1 x18_2).f1)] 65 (0, 0)) (by (with_reducible repeat (refine blk_drewN ?_ _)); exact BK403.out) hb)
                         have n2_ := am (below_step (by repeat ((with_reducible first | exact HB.out | apply pw_below_drewN))) hb)
                         clear BK400
                         clear BK403
                         clear HB
                         have BK400 := n0_
                         have BK403 := n1_
                         have HB := n2_
                         clear n0_ n1_ n2_
                         (try clear hb)
                         (try clear hb2)
                         (try clear hk)
                         (try clear hi)
                         refine hK.out _ _ ⟨(blk_cell BK403.out 0).trans rfl, (blk_cell BK403.out 1).trans rfl, (blk_cell BK400.out 0).trans rfl, (blk_cell BK400.out 1).trans rfl, ((HB.out.cell (World.block_lt_of_cell? w _ hw406_0)).trans hw406_0), ((HB.out.cell (World.block_lt_of_cell? w _ hw406_1)).trans hw406_1)⟩ (fun hHeld => ?_)
                         clear hK K
                         refine norm_ (a' := ?_) ?_ ?_; rotate_left; show Act.put _ (some 49) _ = _; simp only [Act.put, q1, q2, q3, i64_w, i32_w]; rfl
                         refine pure_ (i := 27) (N := some 50) (v := ?_) (a' := ?_) (bs 268435455 30) rfl rfl (any_of HT_.out (by kernel_rfl)) (fun _ _ _ h => h) (Or.inl ⟨by rfl, ?_⟩) ?_ ?_; rotate_left; intro w'; go_simp; with_reducible rfl; rotate_left; simp only [Act.put, q1, q2, q3, i64_w, i32_w]; rfl
                         refine pure_ (i := 28) (N := some 51) (v := ?_) (a' := ?_) (bs 536870911 30) rfl rfl (any_of HT_.out (by kernel_rfl)) (fun _ _ _ h => h) (Or.inl ⟨by rfl, ?_⟩) ?_ ?_; rotate_left; intro w'; go_simp; with_reducible rfl; rotate_left; simp only [Act.put, q1, q2, q3, i64_w, i32_w]; rfl
                         refine pure_ (i := 29) (N := some 52) (v := ?_) (a' := ?_) (bs 1073741823 30) rfl rfl (any_of HT_.out (by kernel_rfl)) (fun _ _ _ h => h) (Or.inl ⟨by rfl, ?_⟩) ?_ ?_; rotate_left; intro w'; go_simp; with_reducible rfl; rotate_left; simp only [Act.put, q1, q2, q3, i64_w, i32_w]; rfl
                         refine done_ (done_of HT_.out (by kernel_rfl)) ?_
                         try go_wp2
                         go_roundg k2
                         case measure => have := HJ1.out; have := HK2.out; omega
                         case rel => exact ⟨(wrap64 (x18_2 + 1)), (by rfl), H', ⟨by have := HJ1.out; have := HK2.out; omega⟩, ⟨by (with_reducible repeat (refine blk_drew ?_)); exact BK400.out⟩, ⟨by repeat ((with_reducible exact HB.out))⟩⟩
                     · rw [if_neg c23] at H
                       exact absurd H (by simp)
                   · rw [if_neg c22] at H
                     exact absurd H (by simp)
                 · rw [if_neg c20] at H
                   have c20b0 : decide (0 < x18_2) = false := decide_eq_false c20
                   clear c20
                   have H' := am H
                   clear H
                   have p402 : 0 ≤ (x18_2 : Int) := of_decide_eq_true (by (with_reducible assumption))
                   have q402 : x18_2 < (l0_1.length : Int) := of_decide_eq_true (by (with_reducible assumption))
                   obtain ⟨ad402, A402_0, c402_0, e402, hx402_0, hx402_1, hl402_0, hi402_0⟩ := at_T65 HR0_1.out x18_2 p402 q402
                   cases e402
                   replace hx402_0 := (HB.out.cell (World.block_lt_of_cell? w _ hx402_0)).trans hx402_0
                   replace hx402_1 := (HB.out.cell (World.block_lt_of_cell? w _ hx402_1)).trans hx402_1
                   have HR402_0 := am hi402_0
                   have HC402_0 := am hl402_0
                   clear hi402_0 hl402_0
                   replace p402 := eq_true p402
                   replace q402 := eq_true q402
                   try go_wp2_with (((with_reducible refine gate_dst (N := 4) rfl ?_); (try (refine gate_guard (by rfl) ?_; dsimp only)); refine box_event ?hg (N := 4) ?hd (cs := #[.slice none 0 0, .int .i64 0]) (t := 65) ?hr ?_; (case hd => rfl); (case hg => rfl); (case hr => (go_simp; done)); intro gb403 hg w40 hbox hb; have n0_ := am (blk_below (g := gb400) (o := .cells #[.int .i64 a0_0, .slice (some ad402) l0_1.length c0_1] 28 (0, 0)) (by exact BK400.out) hb); have n1_ := am (below_step (by repeat ((with_reducible exact HB.out))) hb); have n2_ := am (hbox); have n3_ := am ((by rw [hg]; exact (below_size (by repeat ((with_reducible exact HB.out)))) : w.heap.size ≤ gb403)); have n4_ := am ((by rw [hg]; exact (below_size (by repeat ((with_reducible exact HB.out)))) : w.heap.size ≤ gb403)); have n5_ := am ((by rw [hg]; exact Nat.ne_of_lt (blk_lt (g := gb400) (o := .cells #[.int .i64 a0_0, .slice (some ad402) l0_1.length c0_1] 28 (0, 0)) (by exact BK400.out)) : gb400 ≠ gb403)); have n6_ := am ((by rw [hg]; exact Nat.ne_of_gt (blk_lt (g := gb400) (o := .cells #[.int .i64 a0_0, .slice (some ad402) l0_1.length c0_1] 28 (0, 0)) (by exact BK400.out)) : gb403 ≠ gb400)); clear BK400; clear HB; have BK400 := n0_; have HB := n1_; have BK403 := n2_; have GW403 := n3_; have GE403 := n4_; have NB400_403 := n5_; have NB403_400 := n6_; clear n0_ n1_ n2_ n3_ n4_ n5_ n6_; clear hb hbox hg; have hnb41 := NB403_400.out; have hnc41 := NB400_403.out; have hcz42_0 : w40.cell? ⟨gb403, 0, none⟩ = some (.slice none 0 0) := (blk_cell BK403.out 0).trans rfl; have hcz42_1 : w40.cell? ⟨gb403, 1, none⟩ = some (.int .i64 0) := (blk_cell BK403.out 1).trans rfl; have hfz42_0 := blk_frozen BK403.out 0; have hfz42_1 := blk_frozen BK403.out 1))
                   have n0_ : Aside0 (((w40.setCell ⟨gb403, 0, none⟩ (.slice A402_0 ((rd_T65 l0_1 x18_2).f0).length c402_0)).setCell ⟨gb403, 1, none⟩ (.int .i64 ((rd_T65 l0_1 x18_2).f1))).heap[gb400]? = some (.cells #[.int .i64 a0_0, .slice (some ad402) l0_1.length c0_1] 28 (0, 0))) := ⟨by (with_reducible repeat (refine blk_drew ?_)); refine blk_far ?_ NB400_403.out _; (with_reducible repeat (refine blk_drew ?_)); refine blk_far ?_ NB400_403.out _; (with_reducible repeat (refine blk_drew ?_)); exact BK400.out⟩
                   have n1_ : Aside0 (((w40.setCell ⟨gb403, 0, none⟩ (.slice A402_0 ((rd_T65 l0_1 x18_2).f0).length c402_0)).setCell ⟨gb403, 1, none⟩ (.int .i64 ((rd_T65 l0_1 x18_2).f1))).heap[gb403]? = some (.cells #[.slice A402_0 ((rd_T65 l0_1 x18_2).f0).length c402_0, .int .i64 ((rd_T65 l0_1 x18_2).f1)] 65 (0, 0))) := ⟨by (with_reducible repeat (refine blk_drew ?_)); refine blk_put (cs := #[.slice A402_0 ((rd_T65 l0_1 x18_2).f0).length c402_0, .int .i64 0]) ?_ 1 _ rfl; (with_reducible repeat (refine blk_drew ?_)); refine blk_put (cs := #[.slice none 0 0, .int .i64 0]) ?_ 0 _ rfl; (with_reducible repeat (refine blk_drew ?_)); exact BK403.out⟩
                   have n2_ : Aside0 (Below w.heap.size w ((w40.setCell ⟨gb403, 0, none⟩ (.slice A402_0 ((rd_T65 l0_1 x18_2).f0).length c402_0)).setCell ⟨gb403, 1, none⟩ (.int .i64 ((rd_T65 l0_1 x18_2).f1)))) := ⟨by repeat ((with_reducible first | exact HB.out | refine below_set ?_ GE403.out))⟩
                   (try clear BK400)
                   (try clear BK403)
                   (try clear HB)
                   generalize ((w40.setCell ⟨gb403, 0, none⟩ (.slice A402_0 ((rd_T65 l0_1 x18_2).f0).length c402_0)).setCell ⟨gb403, 1, none⟩ (.int .i64 ((rd_T65 l0_1 x18_2).f1))) = w43 at n0_ n1_ n2_ ⊢
                   have BK400 := n0_
                   have BK403 := n1_
                   have HB := n2_
                   clear n0_ n1_ n2_
                   have n0_ := am (blk_drew BK400.out)
                   have n1_ := am (blk_drew BK403.out)
                   have n2_ := am (below_drew1 HB.out)
                   clear BK400
                   clear BK403
                   clear HB
                   have BK400 := n0_
                   have BK403 := n1_
                   have HB := n2_
                   clear n0_ n1_ n2_
                   refine start_ (n := 30) (S := fun w' => w'.cell? ⟨gb403, 0, none⟩ = some (.slice A402_0 ((rd_T65 l0_1 x18_2).f0).length c402_0) ∧ w'.cell? ⟨gb403, 1, none⟩ = some (.int .i64 ((rd_T65 l0_1 x18_2).f1)) ∧ w'.cell? ⟨gb400, 0, none⟩ = some (.int .i64 a0_0) ∧ w'.cell? ⟨gb400, 1, none⟩ = some (.slice (some ad402) l0_1.length c0_1)) (ds := []) (bs 0 30) (by kernel_rfl) rfl rfl ⟨(blk_cell BK403.out 0).trans rfl, (blk_cell BK403.out 1).trans rfl, (blk_cell BK400.out 0).trans rfl, (blk_cell BK400.out 1).trans rfl⟩ (fun hHeld => ?_); refine with_tabW impl_IsSum.tab6 impl_IsSum.bits6 (fun HT_ HW_ => ?_)
                   generalize w43.drew = w44 at BK400 BK403 HB hHeld ⊢
                   refine pure_ (i := 0) (N := some 23) (v := ?_) (a' := ?_) (bs 1 30) rfl rfl (any_of HT_.out (by kernel_rfl)) (fun _ _ _ h => h) (Or.inl ⟨by rfl, ?_⟩) ?_ ?_; rotate_left; intro w'; go_simp; with_reducible rfl; rotate_left; simp only [Act.put, q1, q2, q3, i64_w, i32_w]; rfl
                   refine take_ (i := 1) (N := some 24) (v := ?_) (a' := ?_) (bs 3 30) rfl rfl (take_ofW HT_.out HW_.out (by kernel_rfl)) (fun _ _ _ h => h) (Or.inl ⟨by rfl, ?_⟩) hHeld ?_ ?_; rotate_left; rintro w' ⟨s0, s1, s2, s3⟩; go_simp; with_reducible rfl; rotate_left; simp only [Act.put, q1, q2, q3, i64_w, i32_w]; rfl
                   refine one_ (i := 2) (N := some 25) (bs 7 30) rfl rfl (one_of HT_.out (by kernel_rfl)) (by decide) (fun K hK => ?_)
                   refine goes_ Try.func80 (by kernel_rfl) rfl #[.slice A402_0 ((rd_T65 l0_1 x18_2).f0).length c402_0] (by rfl) rfl rfl (by (try simp only [List.map_toArray, List.map_cons, List.map_nil]); rfl) ?_
                   with_reducible refine (impl_IsWord.calls k2 _ _ ((rd_T65 l0_1 x18_2).f0) true _ ?side1 ?side2 A16.out).mono ?_
                   (case side1 => repeat (exact (Kd.C_below HR402_0.out HB.out)))
                   (case side2 => exact HC402_0.out)
                   rintro e w45 ⟨rfl, hb⟩
                   refine ⟨_, rfl, ?_⟩
                   have n0_ := am (blk_below (g := gb400) (o := .cells #[.int .i64 a0_0, .slice (some ad402) l0_1.length c0_1] 28 (0, 0)) (by exact BK400.out) hb)
                   have n1_ := am (blk_below (g := gb403) (o := .cells #[.slice A402_0 ((rd_T65 l0_1 x18_2).f0).length c402_0, .int .i64 ((rd_T65 l0_1 x18_2).f1)] 65 (0, 0)) (by exact BK403.out) hb)
                   have n2_ := am (below_step (by repeat ((with_reducible exact HB.out))) hb)
                   clear BK400
                   clear BK403
                   clear HB
                   have BK400 := n0_
                   have BK403 := n1_
                   have HB := n2_
                   clear n0_ n1_ n2_
                   (try clear hb)
                   (try clear hb2)
                   (try clear hk)
                   (try clear hi)
                   refine hK.out _ _ ⟨(blk_cell BK403.out 0).trans rfl, (blk_cell BK403.out 1).trans rfl, (blk_cell BK400.out 0).trans rfl, (blk_cell BK400.out 1).trans rfl⟩ (fun hHeld => ?_)
                   clear hK K
                   refine norm_ (a' := ?_) ?_ ?_; rotate_left; show Act.put _ (some 25) _ = _; simp only [Act.put, q1, q2, q3, i64_w, i32_w]; rfl
                   refine pure_ (i := 3) (N := some 26) (v := ?_) (a' := ?_) (bs 15 30) rfl rfl (any_of HT_.out (by kernel_rfl)) (fun _ _ _ h => h) (Or.inl ⟨by rfl, ?_⟩) ?_ ?_; rotate_left; intro w'; go_simp; with_reducible rfl; rotate_left; simp only [Act.put, q1, q2, q3, i64_w, i32_w]; rfl
                   refine pure_ (i := 4) (N := some 27) (v := ?_) (a' := ?_) (bs 31 30) rfl rfl (any_of HT_.out (by kernel_rfl)) (fun _ _ _ h => h) (Or.inl ⟨by rfl, ?_⟩) ?_ ?_; rotate_left; intro w'; go_simp; with_reducible rfl; rotate_left; simp only [Act.put, q1, q2, q3, i64_w, i32_w]; rfl
                   refine pure_ (i := 5) (N := some 28) (v := ?_) (a' := ?_) (bs 63 30) rfl rfl (any_of HT_.out (by kernel_rfl)) (fun _ _ _ h => h) (Or.inl ⟨by rfl, ?_⟩) ?_ ?_; rotate_left; intro w'; go_simp; with_reducible rfl; rotate_left; simp only [Act.put, q1, q2, q3, i64_w, i32_w]; rfl
                   refine pure_ (i := 7) (N := some 30) (v := ?_) (a' := ?_) (bs 191 30) rfl rfl (any_of HT_.out (by kernel_rfl)) (fun _ _ _ h => h) (Or.inl ⟨by rfl, ?_⟩) ?_ ?_; rotate_left; intro w'; go_simp; with_reducible rfl; rotate_left; simp only [Act.put, q1, q2, q3, i64_w, i32_w]; rfl
                   refine take_ (i := 6) (N := some 29) (v := ?_) (a' := ?_) (bs 255 30) rfl rfl (take_ofW HT_.out HW_.out (by kernel_rfl)) (fun _ _ _ h => h) (Or.inl ⟨by rfl, ?_⟩) hHeld ?_ ?_; rotate_left; rintro w' ⟨s0, s1, s2, s3⟩; go_simp; with_reducible rfl; rotate_left; simp only [Act.put, q1, q2, q3, i64_w, i32_w]; rfl
                   refine take_ (i := 8) (N := some 31) (v := ?_) (a' := ?_) (bs 511 30) rfl rfl (take_ofW HT_.out HW_.out (by kernel_rfl)) (fun _ _ _ h => h) (Or.inl ⟨by rfl, ?_⟩) hHeld ?_ ?_; rotate_left; rintro w' ⟨s0, s1, s2, s3⟩; go_simp; with_reducible rfl; rotate_left; simp only [Act.put, q1, q2, q3, i64_w, i32_w]; rfl
                   refine pure_ (i := 9) (N := some 32) (v := ?_) (a' := ?_) (bs 1023 30) rfl rfl (any_of HT_.out (by kernel_rfl)) (fun _ _ _ h => h) (Or.inl ⟨by rfl, ?_⟩) ?_ ?_; rotate_left; intro w'; go_simp; with_reducible rfl; rotate_left; simp only [Act.put, q1, q2, q3, i64_w, i32_w]; rfl
                   refine one_ (i := 10) (N := some 33) (bs 2047 30) rfl rfl (one_of HT_.out (by kernel_rfl)) (by decide) (fun K hK => ?_)
                   refine goes_ Try.func71 (by kernel_rfl) rfl #[.int .i64 ((rd_T65 l0_1 x18_2).f1), .int .i64 1, .int .i64 (wrap64 (a0_0 - 1))] (by rfl) rfl rfl (by (try simp only [List.map_toArray, List.map_cons, List.map_nil]); rfl) ?_
                   with_reducible refine (impl_in.calls ((rd_T65 l0_1 x18_2).f1) 1 (wrap64 (a0_0 - 1)) true _ A18.out).mono ?_
                   rintro e w' ⟨rfl, ⟨nd, rfl⟩⟩
                   refine ⟨_, rfl, ?_⟩
                   refine hK.out _ _ ⟨(blk_cell BK403.out 0).trans rfl, (blk_cell BK403.out 1).trans rfl, (blk_cell BK400.out 0).trans rfl, (blk_cell BK400.out 1).trans rfl⟩ (fun hHeld => ?_)
                   clear hK K
                   refine norm_ (a' := ?_) ?_ ?_; rotate_left; show Act.put _ (some 33) _ = _; simp only [Act.put, q1, q2, q3, i64_w, i32_w]; rfl
                   refine pure_ (i := 11) (N := some 34) (v := ?_) (a' := ?_) (bs 4095 30) rfl rfl (any_of HT_.out (by kernel_rfl)) (fun _ _ _ h => h) (Or.inl ⟨by rfl, ?_⟩) ?_ ?_; rotate_left; intro w'; go_simp; with_reducible rfl; rotate_left; simp only [Act.put, q1, q2, q3, i64_w, i32_w]; rfl
                   refine pure_ (i := 12) (N := some 35) (v := ?_) (a' := ?_) (bs 8191 30) rfl rfl (any_of HT_.out (by kernel_rfl)) (fun _ _ _ h => h) (Or.inl ⟨by rfl, ?_⟩) ?_ ?_; rotate_left; intro w'; go_simp; with_reducible rfl; rotate_left; simp only [Act.put, q1, q2, q3, i64_w, i32_w]; rfl
                   refine pure_ (i := 13) (N := some 36) (v := ?_) (a' := ?_) (bs 16383 30) rfl rfl (any_of HT_.out (by kernel_rfl)) (fun _ _ _ h => h) (Or.inl ⟨by rfl, ?_⟩) ?_ ?_; rotate_left; intro w'; go_simp; with_reducible rfl; rotate_left; simp only [Act.put, q1, q2, q3, i64_w, i32_w]; rfl
                   refine pure_ (i := 14) (N := some 37) (v := ?_) (a' := ?_) (bs 32767 30) rfl rfl (any_of HT_.out (by kernel_rfl)) (fun _ _ _ h => h) (Or.inl ⟨by rfl, ?_⟩) ?_ ?_; rotate_left; intro w'; go_simp; with_reducible rfl; rotate_left; simp only [Act.put, q1, q2, q3, i64_w, i32_w]; rfl
                   refine pure_ (i := 15) (N := some 38) (v := ?_) (a' := ?_) (bs 65535 30) rfl rfl (any_of HT_.out (by kernel_rfl)) (fun _ _ _ h => h) (Or.inl ⟨by rfl, ?_⟩) ?_ ?_; rotate_left; intro w'; go_simp; with_reducible rfl; rotate_left; simp only [Act.put, q1, q2, q3, i64_w, i32_w]; rfl
                   refine pure_ (i := 16) (N := some 39) (v := ?_) (a' := ?_) (bs 131071 30) rfl rfl (any_of HT_.out (by kernel_rfl)) (fun _ _ _ h => h) (Or.inl ⟨by rfl, ?_⟩) ?_ ?_; rotate_left; intro w'; go_simp; with_reducible rfl; rotate_left; simp only [Act.put, q1, q2, q3, i64_w, i32_w]; rfl
                   refine pure_ (i := 17) (N := some 40) (v := undef) (a' := ?_) (bs 262143 30) rfl rfl (any_of HT_.out (by kernel_rfl)) (fun _ _ _ h => h) (Or.inr ⟨by rfl, rfl⟩) ?_ ?_; rotate_left; simp only [Act.put, q1, q2, q3, i64_w, i32_w]; rfl
                   refine pure_ (i := 18) (N := some 41) (v := undef) (a' := ?_) (bs 524287 30) rfl rfl (any_of HT_.out (by kernel_rfl)) (fun _ _ _ h => h) (Or.inr ⟨by rfl, rfl⟩) ?_ ?_; rotate_left; simp only [Act.put, q1, q2, q3, i64_w, i32_w]; rfl
                   refine pure_ (i := 19) (N := some 42) (v := undef) (a' := ?_) (bs 1048575 30) rfl rfl (any_of HT_.out (by kernel_rfl)) (fun _ _ _ h => h) (Or.inr ⟨by rfl, rfl⟩) ?_ ?_; rotate_left; simp only [Act.put, q1, q2, q3, i64_w, i32_w]; rfl
                   refine pure_ (i := 20) (N := some 43) (v := undef) (a' := ?_) (bs 2097151 30) rfl rfl (any_of HT_.out (by kernel_rfl)) (fun _ _ _ h => h) (Or.inr ⟨by rfl, rfl⟩) ?_ ?_; rotate_left; simp only [Act.put, q1, q2, q3, i64_w, i32_w]; rfl
                   refine pure_ (i := 21) (N := some 44) (v := undef) (a' := ?_) (bs 4194303 30) rfl rfl (any_of HT_.out (by kernel_rfl)) (fun _ _ _ h => h) (Or.inr ⟨by rfl, rfl⟩) ?_ ?_; rotate_left; simp only [Act.put, q1, q2, q3, i64_w, i32_w]; rfl
                   refine pure_ (i := 22) (N := some 45) (v := undef) (a' := ?_) (bs 8388607 30) rfl rfl (any_of HT_.out (by kernel_rfl)) (fun _ _ _ h => h) (Or.inr ⟨by rfl, rfl⟩) ?_ ?_; rotate_left; simp only [Act.put, q1, q2, q3, i64_w, i32_w]; rfl
                   refine pure_ (i := 23) (N := some 46) (v := undef) (a' := ?_) (bs 16777215 30) rfl rfl (any_of HT_.out (by kernel_rfl)) (fun _ _ _ h => h) (Or.inr ⟨by rfl, rfl⟩) ?_ ?_; rotate_left; simp only [Act.put, q1, q2, q3, i64_w, i32_w]; rfl
                   refine pure_ (i := 24) (N := some 47) (v := undef) (a' := ?_) (bs 33554431 30) rfl rfl (any_of HT_.out (by kernel_rfl)) (fun _ _ _ h => h) (Or.inr ⟨by rfl, rfl⟩) ?_ ?_; rotate_left; simp only [Act.put, q1, q2, q3, i64_w, i32_w]; rfl
                   refine pure_ (i := 25) (N := some 48) (v := undef) (a' := ?_) (bs 67108863 30) rfl rfl (any_of HT_.out (by kernel_rfl)) (fun _ _ _ h => h) (Or.inr ⟨by rfl, rfl⟩) ?_ ?_; rotate_left; simp only [Act.put, q1, q2, q3, i64_w, i32_w]; rfl
                   refine pure_ (i := 26) (N := some 49) (v := undef) (a' := ?_) (bs 134217727 30) rfl rfl (any_of HT_.out (by kernel_rfl)) (fun _ _ _ h => h) (Or.inr ⟨by rfl, rfl⟩) ?_ ?_; rotate_left; simp only [Act.put, q1, q2, q3, i64_w, i32_w]; rfl
                   refine pure_ (i := 27) (N := some 50) (v := undef) (a' := ?_) (bs 268435455 30) rfl rfl (any_of HT_.out (by kernel_rfl)) (fun _ _ _ h => h) (Or.inr ⟨by rfl, rfl⟩) ?_ ?_; rotate_left; simp only [Act.put, q1, q2, q3, i64_w, i32_w]; rfl
                   refine pure_ (i := 28) (N := some 51) (v := ?_) (a' := ?_) (bs 536870911 30) rfl rfl (any_of HT_.out (by kernel_rfl)) (fun _ _ _ h => h) (Or.inl ⟨by rfl, ?_⟩) ?_ ?_; rotate_left; intro w'; go_simp; with_reducible rfl; rotate_left; simp only [Act.put, q1, q2, q3, i64_w, i32_w]; rfl
                   refine pure_ (i := 29) (N := some 52) (v := ?_) (a' := ?_) (bs 1073741823 30) rfl rfl (any_of HT_.out (by kernel_rfl)) (fun _ _ _ h => h) (Or.inl ⟨by rfl, ?_⟩) ?_ ?_; rotate_left; intro w'; go_simp; with_reducible rfl; rotate_left; simp only [Act.put, q1, q2, q3, i64_w, i32_w]; rfl
                   refine done_ (done_of HT_.out (by kernel_rfl)) ?_
                   try go_wp2
                   go_roundg k2
                   case measure => have := HJ1.out; have := HK2.out; omega
                   case rel => exact ⟨(wrap64 (x18_2 + 1)), (by rfl), H', ⟨by have := HJ1.out; have := HK2.out; omega⟩, ⟨by (with_reducible repeat (refine blk_drewN ?_ _)); exact BK400.out⟩, ⟨by repeat ((with_reducible first | exact HB.out | apply pw_below_drewN))⟩⟩
               · replace c19 := Bool.eq_false_iff.mpr c19
                 subst c19
                 have H1 : (some false) = some r := by rw [if_neg (show ¬ (false = true) by decide)] at H; exact H
                 clear H
                 have H := H1
                 clear H1
                 obtain rfl := Option.some.inj H
                 have p402 : 0 ≤ (x18_2 : Int) := of_decide_eq_true (by (with_reducible assumption))
                 have q402 : x18_2 < (l0_1.length : Int) := of_decide_eq_true (by (with_reducible assumption))
                 obtain ⟨ad402, A402_0, c402_0, e402, hx402_0, hx402_1, hl402_0, hi402_0⟩ := at_T65 HR0_1.out x18_2 p402 q402
                 cases e402
                 replace hx402_0 := (HB.out.cell (World.block_lt_of_cell? w _ hx402_0)).trans hx402_0
                 replace hx402_1 := (HB.out.cell (World.block_lt_of_cell? w _ hx402_1)).trans hx402_1
                 have HR402_0 := am hi402_0
                 have HC402_0 := am hl402_0
                 clear hi402_0 hl402_0
                 replace p402 := eq_true p402
                 replace q402 := eq_true q402
                 try go_wp2_with (((with_reducible refine gate_dst (N := 4) rfl ?_); (try (refine gate_guard (by rfl) ?_; dsimp only)); refine box_event ?hg (N := 4) ?hd (cs := #[.slice none 0 0, .int .i64 0]) (t := 65) ?hr ?_; (case hd => rfl); (case hg => rfl); (case hr => (go_simp; done)); intro gb403 hg w46 hbox hb; have n0_ := am (blk_below (g := gb400) (o := .cells #[.int .i64 a0_0, .slice (some ad402) l0_1.length c0_1] 28 (0, 0)) (by exact BK400.out) hb); have n1_ := am (below_step (by repeat ((with_reducible exact HB.out))) hb); have n2_ := am (hbox); have n3_ := am ((by rw [hg]; exact (below_size (by repeat ((with_reducible exact HB.out)))) : w.heap.size ≤ gb403)); have n4_ := am ((by rw [hg]; exact (below_size (by repeat ((with_reducible exact HB.out)))) : w.heap.size ≤ gb403)); have n5_ := am ((by rw [hg]; exact Nat.ne_of_lt (blk_lt (g := gb400) (o := .cells #[.int .i64 a0_0, .slice (some ad402) l0_1.length c0_1] 28 (0, 0)) (by exact BK400.out)) : gb400 ≠ gb403)); have n6_ := am ((by rw [hg]; exact Nat.ne_of_gt (blk_lt (g := gb400) (o := .cells #[.int .i64 a0_0, .slice (some ad402) l0_1.length c0_1] 28 (0, 0)) (by exact BK400.out)) : gb403 ≠ gb400)); clear BK400; clear HB; have BK400 := n0_; have HB := n1_; have BK403 := n2_; have GW403 := n3_; have GE403 := n4_; have NB400_403 := n5_; have NB403_400 := n6_; clear n0_ n1_ n2_ n3_ n4_ n5_ n6_; clear hb hbox hg; have hnb47 := NB403_400.out; have hnc47 := NB400_403.out; have hcz48_0 : w46.cell? ⟨gb403, 0, none⟩ = some (.slice none 0 0) := (blk_cell BK403.out 0).trans rfl; have hcz48_1 : w46.cell? ⟨gb403, 1, none⟩ = some (.int .i64 0) := (blk_cell BK403.out 1).trans rfl; have hfz48_0 := blk_frozen BK403.out 0; have hfz48_1 := blk_frozen BK403.out 1))
                 have n0_ : Aside0 (((w46.setCell ⟨gb403, 0, none⟩ (.slice A402_0 ((rd_T65 l0_1 x18_2).f0).length c402_0)).setCell ⟨gb403, 1, none⟩ (.int .i64 ((rd_T65 l0_1 x18_2).f1))).heap[gb400]? = some (.cells #[.int .i64 a0_0, .slice (some ad402) l0_1.length c0_1] 28 (0, 0))) := ⟨by (with_reducible repeat (refine blk_drew ?_)); refine blk_far ?_ NB400_403.out _; (with_reducible repeat (refine blk_drew ?_)); refine blk_far ?_ NB400_403.out _; (with_reducible repeat (refine blk_drew ?_)); exact BK400.out⟩
                 have n1_ : Aside0 (((w46.setCell ⟨gb403, 0, none⟩ (.slice A402_0 ((rd_T65 l0_1 x18_2).f0).length c402_0)).setCell ⟨gb403, 1, none⟩ (.int .i64 ((rd_T65 l0_1 x18_2).f1))).heap[gb403]? = some (.cells #[.slice A402_0 ((rd_T65 l0_1 x18_2).f0).length c402_0, .int .i64 ((rd_T65 l0_1 x18_2).f1)] 65 (0, 0))) := ⟨by (with_reducible repeat (refine blk_drew ?_)); refine blk_put (cs := #[.slice A402_0 ((rd_T65 l0_1 x18_2).f0).length c402_0, .int .i64 0]) ?_ 1 _ rfl; (with_reducible repeat (refine blk_drew ?_)); refine blk_put (cs := #[.slice none 0 0, .int .i64 0]) ?_ 0 _ rfl; (with_reducible repeat (refine blk_drew ?_)); exact BK403.out⟩
                 have n2_ : Aside0 (Below w.heap.size w ((w46.setCell ⟨gb403, 0, none⟩ (.slice A402_0 ((rd_T65 l0_1 x18_2).f0).length c402_0)).setCell ⟨gb403, 1, none⟩ (.int .i64 ((rd_T65 l0_1 x18_2).f1)))) := ⟨by repeat ((with_reducible first | exact HB.out | refine below_set ?_ GE403.out))⟩
                 (try clear BK400)
                 (try clear BK403)
                 (try clear HB)
                 generalize ((w46.setCell ⟨gb403, 0, none⟩ (.slice A402_0 ((rd_T65 l0_1 x18_2).f0).length c402_0)).setCell ⟨gb403, 1, none⟩ (.int .i64 ((rd_T65 l0_1 x18_2).f1))) = w49 at n0_ n1_ n2_ ⊢
                 have BK400 := n0_
                 have BK403 := n1_
                 have HB := n2_
                 clear n0_ n1_ n2_
                 have n0_ := am (blk_drew BK400.out)
                 have n1_ := am (blk_drew BK403.out)
                 have n2_ := am (below_drew1 HB.out)
                 clear BK400
                 clear BK403
                 clear HB
                 have BK400 := n0_
                 have BK403 := n1_
                 have HB := n2_
                 clear n0_ n1_ n2_
                 refine start_ (n := 30) (S := fun w' => w'.cell? ⟨gb403, 0, none⟩ = some (.slice A402_0 ((rd_T65 l0_1 x18_2).f0).length c402_0) ∧ w'.cell? ⟨gb403, 1, none⟩ = some (.int .i64 ((rd_T65 l0_1 x18_2).f1)) ∧ w'.cell? ⟨gb400, 0, none⟩ = some (.int .i64 a0_0) ∧ w'.cell? ⟨gb400, 1, none⟩ = some (.slice (some ad402) l0_1.length c0_1)) (ds := []) (bs 0 30) (by kernel_rfl) rfl rfl ⟨(blk_cell BK403.out 0).trans rfl, (blk_cell BK403.out 1).trans rfl, (blk_cell BK400.out 0).trans rfl, (blk_cell BK400.out 1).trans rfl⟩ (fun hHeld => ?_); refine with_tabW impl_IsSum.tab6 impl_IsSum.bits6 (fun HT_ HW_ => ?_)
                 generalize w49.drew = w50 at BK400 BK403 HB hHeld ⊢
                 refine pure_ (i := 0) (N := some 23) (v := ?_) (a' := ?_) (bs 1 30) rfl rfl (any_of HT_.out (by kernel_rfl)) (fun _ _ _ h => h) (Or.inl ⟨by rfl, ?_⟩) ?_ ?_; rotate_left; intro w'; go_simp; with_reducible rfl; rotate_left; simp only [Act.put, q1, q2, q3, i64_w, i32_w]; rfl
                 refine take_ (i := 1) (N := some 24) (v := ?_) (a' := ?_) (bs 3 30) rfl rfl (take_ofW HT_.out HW_.out (by kernel_rfl)) (fun _ _ _ h => h) (Or.inl ⟨by rfl, ?_⟩) hHeld ?_ ?_; rotate_left; rintro w' ⟨s0, s1, s2, s3⟩; go_simp; with_reducible rfl; rotate_left; simp only [Act.put, q1, q2, q3, i64_w, i32_w]; rfl
                 refine one_ (i := 2) (N := some 25) (bs 7 30) rfl rfl (one_of HT_.out (by kernel_rfl)) (by decide) (fun K hK => ?_)
                 refine goes_ Try.func80 (by kernel_rfl) rfl #[.slice A402_0 ((rd_T65 l0_1 x18_2).f0).length c402_0] (by rfl) rfl rfl (by (try simp only [List.map_toArray, List.map_cons, List.map_nil]); rfl) ?_
                 with_reducible refine (impl_IsWord.calls k2 _ _ ((rd_T65 l0_1 x18_2).f0) true _ ?side1 ?side2 A16.out).mono ?_
                 (case side1 => repeat (exact (Kd.C_below HR402_0.out HB.out)))
                 (case side2 => exact HC402_0.out)
                 rintro e w51 ⟨rfl, hb⟩
                 refine ⟨_, rfl, ?_⟩
                 have n0_ := am (blk_below (g := gb400) (o := .cells #[.int .i64 a0_0, .slice (some ad402) l0_1.length c0_1] 28 (0, 0)) (by exact BK400.out) hb)
                 have n1_ := am (blk_below (g := gb403) (o := .cells #[.slice A402_0 ((rd_T65 l0_1 x18_2).f0).length c402_0, .int .i64 ((rd_T65 l0_1 x18_2).f1)] 65 (0, 0)) (by exact BK403.out) hb)
                 have n2_ := am (below_step (by repeat ((with_reducible exact HB.out))) hb)
                 clear BK400
                 clear BK403
                 clear HB
                 have BK400 := n0_
                 have BK403 := n1_
                 have HB := n2_
                 clear n0_ n1_ n2_
                 (try clear hb)
                 (try clear hb2)
                 (try clear hk)
                 (try clear hi)
                 refine hK.out _ _ ⟨(blk_cell BK403.out 0).trans rfl, (blk_cell BK403.out 1).trans rfl, (blk_cell BK400.out 0).trans rfl, (blk_cell BK400.out 1).trans rfl⟩ (fun hHeld => ?_)
                 clear hK K
                 refine norm_ (a' := ?_) ?_ ?_; rotate_left; show Act.put _ (some 25) _ = _; simp only [Act.put, q1, q2, q3, i64_w, i32_w]; rfl
                 refine pure_ (i := 3) (N := some 26) (v := ?_) (a' := ?_) (bs 15 30) rfl rfl (any_of HT_.out (by kernel_rfl)) (fun _ _ _ h => h) (Or.inl ⟨by rfl, ?_⟩) ?_ ?_; rotate_left; intro w'; go_simp; with_reducible rfl; rotate_left; simp only [Act.put, q1, q2, q3, i64_w, i32_w]; rfl
                 refine pure_ (i := 4) (N := some 27) (v := ?_) (a' := ?_) (bs 31 30) rfl rfl (any_of HT_.out (by kernel_rfl)) (fun _ _ _ h => h) (Or.inl ⟨by rfl, ?_⟩) ?_ ?_; rotate_left; intro w'; go_simp; with_reducible rfl; rotate_left; simp only [Act.put, q1, q2, q3, i64_w, i32_w]; rfl
                 refine pure_ (i := 5) (N := some 28) (v := ?_) (a' := ?_) (bs 63 30) rfl rfl (any_of HT_.out (by kernel_rfl)) (fun _ _ _ h => h) (Or.inl ⟨by rfl, ?_⟩) ?_ ?_; rotate_left; intro w'; go_simp; with_reducible rfl; rotate_left; simp only [Act.put, q1, q2, q3, i64_w, i32_w]; rfl
                 refine pure_ (i := 7) (N := some 30) (v := ?_) (a' := ?_) (bs 191 30) rfl rfl (any_of HT_.out (by kernel_rfl)) (fun _ _ _ h => h) (Or.inl ⟨by rfl, ?_⟩) ?_ ?_; rotate_left; intro w'; go_simp; with_reducible rfl; rotate_left; simp only [Act.put, q1, q2, q3, i64_w, i32_w]; rfl
                 refine take_ (i := 6) (N := some 29) (v := ?_) (a' := ?_) (bs 255 30) rfl rfl (take_ofW HT_.out HW_.out (by kernel_rfl)) (fun _ _ _ h => h) (Or.inl ⟨by rfl, ?_⟩) hHeld ?_ ?_; rotate_left; rintro w' ⟨s0, s1, s2, s3⟩; go_simp; with_reducible rfl; rotate_left; simp only [Act.put, q1, q2, q3, i64_w, i32_w]; rfl
                 refine take_ (i := 8) (N := some 31) (v := ?_) (a' := ?_) (bs 511 30) rfl rfl (take_ofW HT_.out HW_.out (by kernel_rfl)) (fun _ _ _ h => h) (Or.inl ⟨by rfl, ?_⟩) hHeld ?_ ?_; rotate_left; rintro w' ⟨s0, s1, s2, s3⟩; go_simp; with_reducible rfl; rotate_left; simp only [Act.put, q1, q2, q3, i64_w, i32_w]; rfl
                 refine pure_ (i := 9) (N := some 32) (v := ?_) (a' := ?_) (bs 1023 30) rfl rfl (any_of HT_.out (by kernel_rfl)) (fun _ _ _ h => h) (Or.inl ⟨by rfl, ?_⟩) ?_ ?_; rotate_left; intro w'; go_simp; with_reducible rfl; rotate_left; simp only [Act.put, q1, q2, q3, i64_w, i32_w]; rfl
                 refine one_ (i := 10) (N := some 33) (bs 2047 30) rfl rfl (one_of HT_.out (by kernel_rfl)) (by decide) (fun K hK => ?_)
                 refine goes_ Try.func71 (by kernel_rfl) rfl #[.int .i64 ((rd_T65 l0_1 x18_2).f1), .int .i64 1, .int .i64 (wrap64 (a0_0 - 1))] (by rfl) rfl rfl (by (try simp only [List.map_toArray, List.map_cons, List.map_nil]); rfl) ?_
                 with_reducible refine (impl_in.calls ((rd_T65 l0_1 x18_2).f1) 1 (wrap64 (a0_0 - 1)) false _ A18.out).mono ?_
                 rintro e w' ⟨rfl, ⟨nd, rfl⟩⟩
                 refine ⟨_, rfl, ?_⟩
                 refine hK.out _ _ ⟨(blk_cell BK403.out 0).trans rfl, (blk_cell BK403.out 1).trans rfl, (blk_cell BK400.out 0).trans rfl, (blk_cell BK400.out 1).trans rfl⟩ (fun hHeld => ?_)
                 clear hK K
                 refine norm_ (a' := ?_) ?_ ?_; rotate_left; show Act.put _ (some 33) _ = _; simp only [Act.put, q1, q2, q3, i64_w, i32_w]; rfl
                 refine pure_ (i := 11) (N := some 34) (v := ?_) (a' := ?_) (bs 4095 30) rfl rfl (any_of HT_.out (by kernel_rfl)) (fun _ _ _ h => h) (Or.inl ⟨by rfl, ?_⟩) ?_ ?_; rotate_left; intro w'; go_simp; with_reducible rfl; rotate_left; simp only [Act.put, q1, q2, q3, i64_w, i32_w]; rfl
                 refine pure_ (i := 12) (N := some 35) (v := ?_) (a' := ?_) (bs 8191 30) rfl rfl (any_of HT_.out (by kernel_rfl)) (fun _ _ _ h => h) (Or.inl ⟨by rfl, ?_⟩) ?_ ?_; rotate_left; intro w'; go_simp; with_reducible rfl; rotate_left; simp only [Act.put, q1, q2, q3, i64_w, i32_w]; rfl
                 refine pure_ (i := 13) (N := some 36) (v := ?_) (a' := ?_) (bs 16383 30) rfl rfl (any_of HT_.out (by kernel_rfl)) (fun _ _ _ h => h) (Or.inl ⟨by rfl, ?_⟩) ?_ ?_; rotate_left; intro w'; go_simp; with_reducible rfl; rotate_left; simp only [Act.put, q1, q2, q3, i64_w, i32_w]; rfl
                 refine pure_ (i := 14) (N := some 37) (v := undef) (a' := ?_) (bs 32767 30) rfl rfl (any_of HT_.out (by kernel_rfl)) (fun _ _ _ h => h) (Or.inr ⟨by rfl, rfl⟩) ?_ ?_; rotate_left; simp only [Act.put, q1, q2, q3, i64_w, i32_w]; rfl
                 refine pure_ (i := 15) (N := some 38) (v := undef) (a' := ?_) (bs 65535 30) rfl rfl (any_of HT_.out (by kernel_rfl)) (fun _ _ _ h => h) (Or.inr ⟨by rfl, rfl⟩) ?_ ?_; rotate_left; simp only [Act.put, q1, q2, q3, i64_w, i32_w]; rfl
                 refine pure_ (i := 16) (N := some 39) (v := undef) (a' := ?_) (bs 131071 30) rfl rfl (any_of HT_.out (by kernel_rfl)) (fun _ _ _ h => h) (Or.inr ⟨by rfl, rfl⟩) ?_ ?_; rotate_left; simp only [Act.put, q1, q2, q3, i64_w, i32_w]; rfl
                 refine pure_ (i := 17) (N := some 40) (v := undef) (a' := ?_) (bs 262143 30) rfl rfl (any_of HT_.out (by kernel_rfl)) (fun _ _ _ h => h) (Or.inr ⟨by rfl, rfl⟩) ?_ ?_; rotate_left; simp only [Act.put, q1, q2, q3, i64_w, i32_w]; rfl
                 refine pure_ (i := 18) (N := some 41) (v := undef) (a' := ?_) (bs 524287 30) rfl rfl (any_of HT_.out (by kernel_rfl)) (fun _ _ _ h => h) (Or.inr ⟨by rfl, rfl⟩) ?_ ?_; rotate_left; simp only [Act.put, q1, q2, q3, i64_w, i32_w]; rfl
                 refine pure_ (i := 19) (N := some 42) (v := undef) (a' := ?_) (bs 1048575 30) rfl rfl (any_of HT_.out (by kernel_rfl)) (fun _ _ _ h => h) (Or.inr ⟨by rfl, rfl⟩) ?_ ?_; rotate_left; simp only [Act.put, q1, q2, q3, i64_w, i32_w]; rfl
                 refine pure_ (i := 20) (N := some 43) (v := undef) (a' := ?_) (bs 2097151 30) rfl rfl (any_of HT_.out (by kernel_rfl)) (fun _ _ _ h => h) (Or.inr ⟨by rfl, rfl⟩) ?_ ?_; rotate_left; simp only [Act.put, q1, q2, q3, i64_w, i32_w]; rfl
                 refine pure_ (i := 21) (N := some 44) (v := undef) (a' := ?_) (bs 4194303 30) rfl rfl (any_of HT_.out (by kernel_rfl)) (fun _ _ _ h => h) (Or.inr ⟨by rfl, rfl⟩) ?_ ?_; rotate_left; simp only [Act.put, q1, q2, q3, i64_w, i32_w]; rfl
                 refine pure_ (i := 22) (N := some 45) (v := undef) (a' := ?_) (bs 8388607 30) rfl rfl (any_of HT_.out (by kernel_rfl)) (fun _ _ _ h => h) (Or.inr ⟨by rfl, rfl⟩) ?_ ?_; rotate_left; simp only [Act.put, q1, q2, q3, i64_w, i32_w]; rfl
                 refine pure_ (i := 23) (N := some 46) (v := undef) (a' := ?_) (bs 16777215 30) rfl rfl (any_of HT_.out (by kernel_rfl)) (fun _ _ _ h => h) (Or.inr ⟨by rfl, rfl⟩) ?_ ?_; rotate_left; simp only [Act.put, q1, q2, q3, i64_w, i32_w]; rfl
                 refine pure_ (i := 24) (N := some 47) (v := undef) (a' := ?_) (bs 33554431 30) rfl rfl (any_of HT_.out (by kernel_rfl)) (fun _ _ _ h => h) (Or.inr ⟨by rfl, rfl⟩) ?_ ?_; rotate_left; simp only [Act.put, q1, q2, q3, i64_w, i32_w]; rfl
                 refine pure_ (i := 25) (N := some 48) (v := undef) (a' := ?_) (bs 67108863 30) rfl rfl (any_of HT_.out (by kernel_rfl)) (fun _ _ _ h => h) (Or.inr ⟨by rfl, rfl⟩) ?_ ?_; rotate_left; simp only [Act.put, q1, q2, q3, i64_w, i32_w]; rfl
                 refine pure_ (i := 26) (N := some 49) (v := undef) (a' := ?_) (bs 134217727 30) rfl rfl (any_of HT_.out (by kernel_rfl)) (fun _ _ _ h => h) (Or.inr ⟨by rfl, rfl⟩) ?_ ?_; rotate_left; simp only [Act.put, q1, q2, q3, i64_w, i32_w]; rfl
                 refine pure_ (i := 27) (N := some 50) (v := undef) (a' := ?_) (bs 268435455 30) rfl rfl (any_of HT_.out (by kernel_rfl)) (fun _ _ _ h => h) (Or.inr ⟨by rfl, rfl⟩) ?_ ?_; rotate_left; simp only [Act.put, q1, q2, q3, i64_w, i32_w]; rfl
                 refine pure_ (i := 28) (N := some 51) (v := undef) (a' := ?_) (bs 536870911 30) rfl rfl (any_of HT_.out (by kernel_rfl)) (fun _ _ _ h => h) (Or.inr ⟨by rfl, rfl⟩) ?_ ?_; rotate_left; simp only [Act.put, q1, q2, q3, i64_w, i32_w]; rfl
                 refine pure_ (i := 29) (N := some 52) (v := ?_) (a' := ?_) (bs 1073741823 30) rfl rfl (any_of HT_.out (by kernel_rfl)) (fun _ _ _ h => h) (Or.inl ⟨by rfl, ?_⟩) ?_ ?_; rotate_left; intro w'; go_simp; with_reducible rfl; rotate_left; simp only [Act.put, q1, q2, q3, i64_w, i32_w]; rfl
                 refine done_ (done_of HT_.out (by kernel_rfl)) ?_
                 try go_wp2
                 go_ret
                 exact ⟨by rfl, by repeat ((with_reducible first | exact HB.out | apply pw_below_drewN))⟩
             · replace c17 := Bool.eq_false_iff.mpr c17
               subst c17
               have H1 : (some false) = some r := by rw [if_neg (show ¬ (false = true) by decide)] at H; exact H
               clear H
               have H := H1
               clear H1
               obtain rfl := Option.some.inj H
               have p402 : 0 ≤ (x18_2 : Int) := of_decide_eq_true (by (with_reducible assumption))
               have q402 : x18_2 < (l0_1.length : Int) := of_decide_eq_true (by (with_reducible assumption))
               obtain ⟨ad402, A402_0, c402_0, e402, hx402_0, hx402_1, hl402_0, hi402_0⟩ := at_T65 HR0_1.out x18_2 p402 q402
               cases e402
               replace hx402_0 := (HB.out.cell (World.block_lt_of_cell? w _ hx402_0)).trans hx402_0
               replace hx402_1 := (HB.out.cell (World.block_lt_of_cell? w _ hx402_1)).trans hx402_1
               have HR402_0 := am hi402_0
               have HC402_0 := am hl402_0
               clear hi402_0 hl402_0
               replace p402 := eq_true p402
               replace q402 := eq_true q402
               try go_wp2_with (((with_reducible refine gate_dst (N := 4) rfl ?_); (try (refine gate_guard (by rfl) ?_; dsimp only)); refine box_event ?hg (N := 4) ?hd (cs := #[.slice none 0 0, .int .i64 0]) (t := 65) ?hr ?_; (case hd => rfl); (case hg => rfl); (case hr => (go_simp; done)); intro gb403 hg w52 hbox hb; have n0_ := am (blk_below (g := gb400) (o := .cells #[.int .i64 a0_0, .slice (some ad402) l0_1.length c0_1] 28 (0, 0)) (by exact BK400.out) hb); have n1_ := am (below_step (by repeat ((with_reducible exact HB.out))) hb); have n2_ := am (hbox); have n3_ := am ((by rw [hg]; exact (below_size (by repeat ((with_reducible exact HB.out)))) : w.heap.size ≤ gb403)); have n4_ := am ((by rw [hg]; exact (below_size (by repeat ((with_reducible exact HB.out)))) : w.heap.size ≤ gb403)); have n5_ := am ((by rw [hg]; exact Nat.ne_of_lt (blk_lt (g := gb400) (o := .cells #[.int .i64 a0_0, .slice (some ad402) l0_1.length c0_1] 28 (0, 0)) (by exact BK400.out)) : gb400 ≠ gb403)); have n6_ := am ((by rw [hg]; exact Nat.ne_of_gt (blk_lt (g := gb400) (o := .cells #[.int .i64 a0_0, .slice (some ad402) l0_1.length c0_1] 28 (0, 0)) (by exact BK400.out)) : gb403 ≠ gb400)); clear BK400; clear HB; have BK400 := n0_; have HB := n1_; have BK403 := n2_; have GW403 := n3_; have GE403 := n4_; have NB400_403 := n5_; have NB403_400 := n6_; clear n0_ n1_ n2_ n3_ n4_ n5_ n6_; clear hb hbox hg; have hnb53 := NB403_400.out; have hnc53 := NB400_403.out; have hcz54_0 : w52.cell? ⟨gb403, 0, none⟩ = some (.slice none 0 0) := (blk_cell BK403.out 0).trans rfl; have hcz54_1 : w52.cell? ⟨gb403, 1, none⟩ = some (.int .i64 0) := (blk_cell BK403.out 1).trans rfl; have hfz54_0 := blk_frozen BK403.out 0; have hfz54_1 := blk_frozen BK403.out 1))
               have n0_ : Aside0 (((w52.setCell ⟨gb403, 0, none⟩ (.slice A402_0 ((rd_T65 l0_1 x18_2).f0).length c402_0)).setCell ⟨gb403, 1, none⟩ (.int .i64 ((rd_T65 l0_1 x18_2).f1))).heap[gb400]? = some (.cells #[.int .i64 a0_0, .slice (some ad402) l0_1.length c0_1] 28 (0, 0))) := ⟨by (with_reducible repeat (refine blk_drew ?_)); refine blk_far ?_ NB400_403.out _; (with_reducible repeat (refine blk_drew ?_)); refine blk_far ?_ NB400_403.out _; (with_reducible repeat (refine blk_drew ?_)); exact BK400.out⟩
               have n1_ : Aside0 (((w52.setCell ⟨gb403, 0, none⟩ (.slice A402_0 ((rd_T65 l0_1 x18_2).f0).length c402_0)).setCell ⟨gb403, 1, none⟩ (.int .i64 ((rd_T65 l0_1 x18_2).f1))).heap[gb403]? = some (.cells #[.slice A402_0 ((rd_T65 l0_1 x18_2).f0).length c402_0, .int .i64 ((rd_T65 l0_1 x18_2).f1)] 65 (0, 0))) := ⟨by (with_reducible repeat (refine blk_drew ?_)); refine blk_put (cs := #[.slice A402_0 ((rd_T65 l0_1 x18_2).f0).length c402_0, .int .i64 0]) ?_ 1 _ rfl; (with_reducible repeat (refine blk_drew ?_)); refine blk_put (cs := #[.slice none 0 0, .int .i64 0]) ?_ 0 _ rfl; (with_reducible repeat (refine blk_drew ?_)); exact BK403.out⟩
               have n2_ : Aside0 (Below w.heap.size w ((w52.setCell ⟨gb403, 0, none⟩ (.slice A402_0 ((rd_T65 l0_1 x18_2).f0).length c402_0)).setCell ⟨gb403, 1, none⟩ (.int .i64 ((rd_T65 l0_1 x18_2).f1)))) := ⟨by repeat ((with_reducible first | exact HB.out | refine below_set ?_ GE403.out))⟩
               (try clear BK400)
               (try clear BK403)
               (try clear HB)
               generalize ((w52.setCell ⟨gb403, 0, none⟩ (.slice A402_0 ((rd_T65 l0_1 x18_2).f0).length c402_0)).setCell ⟨gb403, 1, none⟩ (.int .i64 ((rd_T65 l0_1 x18_2).f1))) = w55 at n0_ n1_ n2_ ⊢
               have BK400 := n0_
               have BK403 := n1_
               have HB := n2_
               clear n0_ n1_ n2_
               have n0_ := am (blk_drew BK400.out)
               have n1_ := am (blk_drew BK403.out)
               have n2_ := am (below_drew1 HB.out)
               clear BK400
               clear BK403
               clear HB
               have BK400 := n0_
               have BK403 := n1_
               have HB := n2_
               clear n0_ n1_ n2_
               refine start_ (n := 30) (S := fun w' => w'.cell? ⟨gb403, 0, none⟩ = some (.slice A402_0 ((rd_T65 l0_1 x18_2).f0).length c402_0) ∧ w'.cell? ⟨gb403, 1, none⟩ = some (.int .i64 ((rd_T65 l0_1 x18_2).f1))) (ds := []) (bs 0 30) (by kernel_rfl) rfl rfl ⟨(blk_cell BK403.out 0).trans rfl, (blk_cell BK403.out 1).trans rfl⟩ (fun hHeld => ?_); refine with_tabW impl_IsSum.tab6 impl_IsSum.bits6 (fun HT_ HW_ => ?_)
               generalize w55.drew = w56 at BK400 BK403 HB hHeld ⊢
               refine pure_ (i := 0) (N := some 23) (v := ?_) (a' := ?_) (bs 1 30) rfl rfl (any_of HT_.out (by kernel_rfl)) (fun _ _ _ h => h) (Or.inl ⟨by rfl, ?_⟩) ?_ ?_; rotate_left; intro w'; go_simp; with_reducible rfl; rotate_left; simp only [Act.put, q1, q2, q3, i64_w, i32_w]; rfl
               refine take_ (i := 1) (N := some 24) (v := ?_) (a' := ?_) (bs 3 30) rfl rfl (take_ofW HT_.out HW_.out (by kernel_rfl)) (fun _ _ _ h => h) (Or.inl ⟨by rfl, ?_⟩) hHeld ?_ ?_; rotate_left; rintro w' ⟨s0, s1⟩; go_simp; with_reducible rfl; rotate_left; simp only [Act.put, q1, q2, q3, i64_w, i32_w]; rfl
               refine one_ (i := 2) (N := some 25) (bs 7 30) rfl rfl (one_of HT_.out (by kernel_rfl)) (by decide) (fun K hK => ?_)
               refine goes_ Try.func80 (by kernel_rfl) rfl #[.slice A402_0 ((rd_T65 l0_1 x18_2).f0).length c402_0] (by rfl) rfl rfl (by (try simp only [List.map_toArray, List.map_cons, List.map_nil]); rfl) ?_
               with_reducible refine (impl_IsWord.calls k2 _ _ ((rd_T65 l0_1 x18_2).f0) false _ ?side1 ?side2 A16.out).mono ?_
               (case side1 => repeat (exact (Kd.C_below HR402_0.out HB.out)))
               (case side2 => exact HC402_0.out)
               rintro e w57 ⟨rfl, hb⟩
               refine ⟨_, rfl, ?_⟩
               have n0_ := am (blk_below (g := gb400) (o := .cells #[.int .i64 a0_0, .slice (some ad402) l0_1.length c0_1] 28 (0, 0)) (by exact BK400.out) hb)
               have n1_ := am (blk_below (g := gb403) (o := .cells #[.slice A402_0 ((rd_T65 l0_1 x18_2).f0).length c402_0, .int .i64 ((rd_T65 l0_1 x18_2).f1)] 65 (0, 0)) (by exact BK403.out) hb)
               have n2_ := am (below_step (by repeat ((with_reducible exact HB.out))) hb)
               clear BK400
               clear BK403
               clear HB
               have BK400 := n0_
               have BK403 := n1_
               have HB := n2_
               clear n0_ n1_ n2_
               (try clear hb)
               (try clear hb2)
               (try clear hk)
               (try clear hi)
               refine hK.out _ _ ⟨(blk_cell BK403.out 0).trans rfl, (blk_cell BK403.out 1).trans rfl⟩ (fun hHeld => ?_)
               clear hK K
               refine norm_ (a' := ?_) ?_ ?_; rotate_left; show Act.put _ (some 25) _ = _; simp only [Act.put, q1, q2, q3, i64_w, i32_w]; rfl
               refine pure_ (i := 3) (N := some 26) (v := ?_) (a' := ?_) (bs 15 30) rfl rfl (any_of HT_.out (by kernel_rfl)) (fun _ _ _ h => h) (Or.inl ⟨by rfl, ?_⟩) ?_ ?_; rotate_left; intro w'; go_simp; with_reducible rfl; rotate_left; simp only [Act.put, q1, q2, q3, i64_w, i32_w]; rfl
               refine pure_ (i := 4) (N := some 27) (v := ?_) (a' := ?_) (bs 31 30) rfl rfl (any_of HT_.out (by kernel_rfl)) (fun _ _ _ h => h) (Or.inl ⟨by rfl, ?_⟩) ?_ ?_; rotate_left; intro w'; go_simp; with_reducible rfl; rotate_left; simp only [Act.put, q1, q2, q3, i64_w, i32_w]; rfl
               refine pure_ (i := 5) (N := some 28) (v := undef) (a' := ?_) (bs 63 30) rfl rfl (any_of HT_.out (by kernel_rfl)) (fun _ _ _ h => h) (Or.inr ⟨by rfl, rfl⟩) ?_ ?_; rotate_left; simp only [Act.put, q1, q2, q3, i64_w, i32_w]; rfl
               refine pure_ (i := 6) (N := some 29) (v := undef) (a' := ?_) (bs 127 30) rfl rfl (any_of HT_.out (by kernel_rfl)) (fun _ _ _ h => h) (Or.inr ⟨by rfl, rfl⟩) ?_ ?_; rotate_left; simp only [Act.put, q1, q2, q3, i64_w, i32_w]; rfl
               refine pure_ (i := 7) (N := some 30) (v := undef) (a' := ?_) (bs 255 30) rfl rfl (any_of HT_.out (by kernel_rfl)) (fun _ _ _ h => h) (Or.inr ⟨by rfl, rfl⟩) ?_ ?_; rotate_left; simp only [Act.put, q1, q2, q3, i64_w, i32_w]; rfl
               refine pure_ (i := 8) (N := some 31) (v := undef) (a' := ?_) (bs 511 30) rfl rfl (any_of HT_.out (by kernel_rfl)) (fun _ _ _ h => h) (Or.inr ⟨by rfl, rfl⟩) ?_ ?_; rotate_left; simp only [Act.put, q1, q2, q3, i64_w, i32_w]; rfl
               refine pure_ (i := 9) (N := some 32) (v := undef) (a' := ?_) (bs 1023 30) rfl rfl (any_of HT_.out (by kernel_rfl)) (fun _ _ _ h => h) (Or.inr ⟨by rfl, rfl⟩) ?_ ?_; rotate_left; simp only [Act.put, q1, q2, q3, i64_w, i32_w]; rfl
               refine pure_ (i := 10) (N := some 33) (v := undef) (a' := ?_) (bs 2047 30) rfl rfl (any_of HT_.out (by kernel_rfl)) (fun _ _ _ h => h) (Or.inr ⟨by rfl, rfl⟩) ?_ ?_; rotate_left; simp only [Act.put, q1, q2, q3, i64_w, i32_w]; rfl
               refine pure_ (i := 11) (N := some 34) (v := undef) (a' := ?_) (bs 4095 30) rfl rfl (any_of HT_.out (by kernel_rfl)) (fun _ _ _ h => h) (Or.inr ⟨by rfl, rfl⟩) ?_ ?_; rotate_left; simp only [Act.put, q1, q2, q3, i64_w, i32_w]; rfl
               refine pure_ (i := 12) (N := some 35) (v := ?_) (a' := ?_) (bs 8191 30) rfl rfl (any_of HT_.out (by kernel_rfl)) (fun _ _ _ h => h) (Or.inl ⟨by rfl, ?_⟩) ?_ ?_; rotate_left; intro w'; go_simp; with_reducible rfl; rotate_left; simp only [Act.put, q1, q2, q3, i64_w, i32_w]; rfl
               refine pure_ (i := 13) (N := some 36) (v := ?_) (a' := ?_) (bs 16383 30) rfl rfl (any_of HT_.out (by kernel_rfl)) (fun _ _ _ h => h) (Or.inl ⟨by rfl, ?_⟩) ?_ ?_; rotate_left; intro w'; go_simp; with_reducible rfl; rotate_left; simp only [Act.put, q1, q2, q3, i64_w, i32_w]; rfl
               refine pure_ (i := 14) (N := some 37) (v := undef) (a' := ?_) (bs 32767 30) rfl rfl (any_of HT_.out (by kernel_rfl)) (fun _ _ _ h => h) (Or.inr ⟨by rfl, rfl⟩) ?_ ?_; rotate_left; simp only [Act.put, q1, q2, q3, i64_w, i32_w]; rfl
               refine pure_ (i := 15) (N := some 38) (v := undef) (a' := ?_) (bs 65535 30) rfl rfl (any_of HT_.out (by kernel_rfl)) (fun _ _ _ h => h) (Or.inr ⟨by rfl, rfl⟩) ?_ ?_; rotate_left; simp only [Act.put, q1, q2, q3, i64_w, i32_w]; rfl
               refine pure_ (i := 16) (N := some 39) (v := undef) (a' := ?_) (bs 131071 30) rfl rfl (any_of HT_.out (by kernel_rfl)) (fun _ _ _ h => h) (Or.inr ⟨by rfl, rfl⟩) ?_ ?_; rotate_left; simp only [Act.put, q1, q2, q3, i64_w, i32_w]; rfl
               refine pure_ (i := 17) (N := some 40) (v := undef) (a' := ?_) (bs 262143 30) rfl rfl (any_of HT_.out (by kernel_rfl)) (fun _ _ _ h => h) (Or.inr ⟨by rfl, rfl⟩) ?_ ?_; rotate_left; simp only [Act.put, q1, q2, q3, i64_w, i32_w]; rfl
               refine pure_ (i := 18) (N := some 41) (v := undef) (a' := ?_) (bs 524287 30) rfl rfl (any_of HT_.out (by kernel_rfl)) (fun _ _ _ h => h) (Or.inr ⟨by rfl, rfl⟩) ?_ ?_; rotate_left; simp only [Act.put, q1, q2, q3, i64_w, i32_w]; rfl
               refine pure_ (i := 19) (N := some 42) (v := undef) (a' := ?_) (bs 1048575 30) rfl rfl (any_of HT_.out (by kernel_rfl)) (fun _ _ _ h => h) (Or.inr ⟨by rfl, rfl⟩) ?_ ?_; rotate_left; simp only [Act.put, q1, q2, q3, i64_w, i32_w]; rfl
               refine pure_ (i := 20) (N := some 43) (v := undef) (a' := ?_) (bs 2097151 30) rfl rfl (any_of HT_.out (by kernel_rfl)) (fun _ _ _ h => h) (Or.inr ⟨by rfl, rfl⟩) ?_ ?_; rotate_left; simp only [Act.put, q1, q2, q3, i64_w, i32_w]; rfl
               refine pure_ (i := 21) (N := some 44) (v := undef) (a' := ?_) (bs 4194303 30) rfl rfl (any_of HT_.out (by kernel_rfl)) (fun _ _ _ h => h) (Or.inr ⟨by rfl, rfl⟩) ?_ ?_; rotate_left; simp only [Act.put, q1, q2, q3, i64_w, i32_w]; rfl
               refine pure_ (i := 22) (N := some 45) (v := undef) (a' := ?_) (bs 8388607 30) rfl rfl (any_of HT_.out (by kernel_rfl)) (fun _ _ _ h => h) (Or.inr ⟨by rfl, rfl⟩) ?_ ?_; rotate_left; simp only [Act.put, q1, q2, q3, i64_w, i32_w]; rfl
               refine pure_ (i := 23) (N := some 46) (v := undef) (a' := ?_) (bs 16777215 30) rfl rfl (any_of HT_.out (by kernel_rfl)) (fun _ _ _ h => h) (Or.inr ⟨by rfl, rfl⟩) ?_ ?_; rotate_left; simp only [Act.put, q1, q2, q3, i64_w, i32_w]; rfl
               refine pure_ (i := 24) (N := some 47) (v := undef) (a' := ?_) (bs 33554431 30) rfl rfl (any_of HT_.out (by kernel_rfl)) (fun _ _ _ h => h) (Or.inr ⟨by rfl, rfl⟩) ?_ ?_; rotate_left; simp only [Act.put, q1, q2, q3, i64_w, i32_w]; rfl
               refine pure_ (i := 25) (N := some 48) (v := undef) (a' := ?_) (bs 67108863 30) rfl rfl (any_of HT_.out (by kernel_rfl)) (fun _ _ _ h => h) (Or.inr ⟨by rfl, rfl⟩) ?_ ?_; rotate_left; simp only [Act.put, q1, q2, q3, i64_w, i32_w]; rfl
               refine pure_ (i := 26) (N := some 49) (v := undef) (a' := ?_) (bs 134217727 30) rfl rfl (any_of HT_.out (by kernel_rfl)) (fun _ _ _ h => h) (Or.inr ⟨by rfl, rfl⟩) ?_ ?_; rotate_left; simp only [Act.put, q1, q2, q3, i64_w, i32_w]; rfl
               refine pure_ (i := 27) (N := some 50) (v := undef) (a' := ?_) (bs 268435455 30) rfl rfl (any_of HT_.out (by kernel_rfl)) (fun _ _ _ h => h) (Or.inr ⟨by rfl, rfl⟩) ?_ ?_; rotate_left; simp only [Act.put, q1, q2, q3, i64_w, i32_w]; rfl
               refine pure_ (i := 28) (N := some 51) (v := undef) (a' := ?_) (bs 536870911 30) rfl rfl (any_of HT_.out (by kernel_rfl)) (fun _ _ _ h => h) (Or.inr ⟨by rfl, rfl⟩) ?_ ?_; rotate_left; simp only [Act.put, q1, q2, q3, i64_w, i32_w]; rfl
               refine pure_ (i := 29) (N := some 52) (v := ?_) (a' := ?_) (bs 1073741823 30) rfl rfl (any_of HT_.out (by kernel_rfl)) (fun _ _ _ h => h) (Or.inl ⟨by rfl, ?_⟩) ?_ ?_; rotate_left; intro w'; go_simp; with_reducible rfl; rotate_left; simp only [Act.put, q1, q2, q3, i64_w, i32_w]; rfl
               refine done_ (done_of HT_.out (by kernel_rfl)) ?_
               try go_wp2
               go_ret
               exact ⟨by rfl, by repeat ((with_reducible exact HB.out))⟩
           · rw [if_neg c15] at H
             exact absurd H (by simp)
         · rw [if_neg c14] at H
           exact absurd H (by simp)
       · rw [if_neg c13] at H
         have c13b0 : decide (x18_2 < (l0_1.length : Int)) = false := decide_eq_false c13
         clear c13
         obtain rfl := Option.some.inj H
         go_wp2
         go_ret
         exact ⟨by rfl, by repeat ((with_reducible exact HB.out))⟩
end Go.Proofs.Ytgcgeoglhebonaa.P
end
section
namespace Go.Proofs.Ytgcgeoglhebonaa.P
open Go.RowKit Go.Proofs.YtgcgeoglhebonaaW.PrintWords Go.Proofs.YtgcgeoglhebonaaW.PrintLast
set_option linter.unusedVariables false
set_option linter.unusedSimpArgs false
def primeB (p : Int) : Bool := p == 2 || p == 3 || p == 5 || p == 7 || p == 11 || p == 13
theorem ev_prime (p : Int) : spec_l03Prime.f p = some (primeB p) := by
 unfold spec_l03Prime.f primeB
 by_cases h2 : p = 2
 · simp [h2]
 by_cases h3 : p = 3
 · simp [h3]
 by_cases h5 : p = 5
 · simp [h5]
 by_cases h7 : p = 7
 · simp [h7]
 by_cases h11 : p = 11
 · simp [h11]
 simp [h2, h3, h5, h7, h11]
theorem index_l0 (l : List Int) (x : Int) (hn : l.length ≤ 1000000000000000) : ∀ (d i : Nat), i + d = l.length → Ev (fun k => slices_Index_int64_int64.l0 k l x (l.length : Int) (i : Int)) (if x ∈ l.drop i then ((i + (l.drop i).idxOf x : Nat) : Int) else -1) := by
 intro d
 induction d with
 | zero =>
  intro i hi
  refine Ev.step (fun k => by rw [slices_Index_int64_int64.l0]) ?_
  simp only [if_neg (show ¬ ((i : Int) < (l.length : Int)) by omega)]
  refine ev_val ?_
  rw [List.drop_of_length_le (by omega)]
  simp
 | succ d ih =>
  intro i hi
  refine Ev.step (fun k => by rw [slices_Index_int64_int64.l0]) ?_
  simp only [if_pos (show (i : Int) < (l.length : Int) by omega), if_pos (show (0 : Int) ≤ (i : Int) by omega)]
  rw [rd_drop l i (by omega)]
  by_cases he : x = rd l (i : Int)
  · simp only [if_pos he]
    refine ev_val ?_
    rw [he]
    simp
  · simp only [if_neg he, wr1 i l.length (by omega) hn]
    have h1 := ih (i + 1) (by omega)
    have hb : (rd l (i : Int) == x) = false := by simpa using Ne.symm he
    by_cases hm : x ∈ l.drop (i + 1)
    · rw [if_pos hm] at h1
      rw [if_pos (List.mem_cons_of_mem _ hm), List.idxOf_cons, hb]
      have e1 : i + 1 + List.idxOf x (List.drop (i + 1) l) = i + (List.idxOf x (List.drop (i + 1) l) + 1) := by omega
      rw [e1] at h1
      exact h1
    · rw [if_neg hm] at h1
      rw [if_neg (by simp [he]; simpa using hm)]
      exact h1
theorem ev_index (l : List Int) (x : Int) (hn : l.length ≤ 1000000000000000) : Ev (fun k => slices_Index_int64_int64.f k l x) (if x ∈ l then (l.idxOf x : Int) else -1) := by
 have := index_l0 l x hn l.length 0 (by omega)
 simpa [slices_Index_int64_int64.f] using this
theorem ev_contains (l : List Int) (x : Int) (hn : l.length ≤ 1000000000000000) : Ev (fun k => slices_Contains_int64_int64.f k l x) (decide (x ∈ l)) := by
 unfold slices_Contains_int64_int64.f
 refine Ev.bind (ev_index l x hn) (ev_val ?_)
 by_cases h : x ∈ l
 · simp [h]
 · simp [h]
theorem ev_isPrime (p : Int) : Ev (fun k => impl_isPrime.f k p) (primeB p) := by
 unfold impl_isPrime.f
 refine Ev.bind (ev_contains _ p (by simp)) (ev_val ?_)
 simp only [primeB, List.mem_cons, List.not_mem_nil, or_false]
 simp only [Bool.decide_or, Bool.or_assoc]
 rfl
def cmpL : List Int → List Int → Int
 | [], [] => 0
 | [], _ :: _ => -1
 | _ :: _, [] => 1
 | x :: a, y :: b => if x < y then -1 else if y < x then 1 else cmpL a b
def wordCmp (a b : List Int) : Int := if a.length < b.length then -1 else if b.length < a.length then 1 else cmpL a b
def wlt (a b : List Int) : Bool := decide (wordCmp a b < 0)
theorem before_l0 (a b : List Int) (hl : a.length = b.length) (hn : a.length ≤ 1000000000000000) : ∀ (d i : Nat), i + d = a.length → Ev (fun k => spec_l01Before.l0 k a b (i : Int)) (decide (cmpL (a.drop i) (b.drop i) < 0)) := by
 intro d
 induction d with
 | zero =>
  intro i hi
  refine Ev.step (fun k => by rw [spec_l01Before.l0]) ?_
  simp only [if_neg (show ¬ ((i : Int) < (a.length : Int)) by omega)]
  refine ev_val ?_
  rw [List.drop_of_length_le (by omega), List.drop_of_length_le (by omega)]
  simp [cmpL]
 | succ d ih =>
  intro i hi
  refine Ev.step (fun k => by rw [spec_l01Before.l0]) ?_
  simp only [if_pos (show (i : Int) < (a.length : Int) by omega), if_pos (show (0 : Int) ≤ (i : Int) by omega), if_pos (show (i : Int) < (b.length : Int) by omega)]
  rw [rd_drop a i (by omega), rd_drop b i (by omega)]
  simp only [cmpL]
  by_cases he : rd a (i : Int) = rd b (i : Int)
  · simp only [if_pos he, wr1 i a.length (by omega) hn]
    have := ih (i + 1) (by omega)
    simpa [he] using this
  · simp only [if_neg he]
    refine ev_val ?_
    by_cases h1 : rd a (i : Int) < rd b (i : Int)
    · simp [h1]
    · have h2 : rd b (i : Int) < rd a (i : Int) := by omega
      simp [h1, h2]
theorem ev_before (a b : List Int) (hn : a.length ≤ 1000000000000000) : Ev (fun k => spec_l01Before.f k a b) (wlt a b) := by
 unfold spec_l01Before.f wlt wordCmp
 by_cases hl : a.length = b.length
 · simp only [if_pos (show (a.length : Int) = (b.length : Int) by omega), hl, Nat.lt_irrefl, if_false]
   have := before_l0 a b hl hn a.length 0 (by omega)
   simpa using this
 · simp only [if_neg (show ¬ (a.length : Int) = (b.length : Int) by omega)]
   refine ev_val ?_
   by_cases h1 : a.length < b.length
   · simp [h1]
   · have h2 : b.length < a.length := by omega
     simp [h1, h2]
theorem compare64 (x y : Int) : cmp_Compare_int64.f x y = some (if x < y then -1 else if y < x then 1 else 0) := by
 simp only [cmp_Compare_int64.f, cmp_isNaN_int64.f, Option.bind_some, bne_self_eq_false, Bool.false_eq_true, if_false]
 by_cases h1 : x < y
 · simp [h1]
 · by_cases h2 : y < x
   · simp [h1, h2]
   · simp [h1, h2]
theorem compareInt (x y : Int) : cmp_Compare_int.f x y = some (if x < y then -1 else if y < x then 1 else 0) := by
 simp only [cmp_Compare_int.f, cmp_isNaN_int.f, Option.bind_some, bne_self_eq_false, Bool.false_eq_true, if_false]
 by_cases h1 : x < y
 · simp [h1]
 · by_cases h2 : y < x
   · simp [h1, h2]
   · simp [h1, h2]
theorem compare_l0 (a b : List Int) (hn : a.length ≤ 1000000000000000) : ∀ (d i : Nat), i + d = a.length → i ≤ b.length → Ev (fun k => slices_Compare_int64_int64.l0 k a b a (a.length : Int) (i : Int)) (cmpL (a.drop i) (b.drop i)) := by
 intro d
 induction d with
 | zero =>
  intro i hi hb
  refine Ev.step (fun k => by rw [slices_Compare_int64_int64.l0]) ?_
  simp only [if_neg (show ¬ ((i : Int) < (a.length : Int)) by omega)]
  rw [List.drop_of_length_le (show a.length ≤ i by omega)]
  by_cases h1 : a.length < b.length
  · simp only [if_pos (show (a.length : Int) < (b.length : Int) by omega)]
    refine ev_val ?_
    rw [rd_drop b i (by omega)]
    rfl
  · simp only [if_neg (show ¬ (a.length : Int) < (b.length : Int) by omega)]
    refine ev_val ?_
    rw [List.drop_of_length_le (by omega)]
    rfl
 | succ d ih =>
  intro i hi hb
  refine Ev.step (fun k => by rw [slices_Compare_int64_int64.l0]) ?_
  simp only [if_pos (show (i : Int) < (a.length : Int) by omega), if_pos (show (0 : Int) ≤ (i : Int) by omega)]
  rw [rd_drop a i (by omega)]
  by_cases h1 : i < b.length
  · simp only [if_neg (show ¬ (i : Int) ≥ (b.length : Int) by omega), if_pos (show (i : Int) < (b.length : Int) by omega), compare64, Option.bind_some, wr1 i a.length (by omega) hn]
    rw [rd_drop b i h1]
    simp only [cmpL]
    have h2 := ih (i + 1) (by omega) (by omega)
    by_cases c1 : rd a (i : Int) < rd b (i : Int)
    · simp only [if_pos c1]; exact ev_val rfl
    · by_cases c2 : rd b (i : Int) < rd a (i : Int)
      · simp only [if_neg c1, if_pos c2]; exact ev_val rfl
      · simp only [if_neg c1, if_neg c2, if_true]; exact h2
  · simp only [if_pos (show (i : Int) ≥ (b.length : Int) by omega)]
    refine ev_val ?_
    rw [List.drop_of_length_le (show b.length ≤ i by omega)]
    rfl
theorem ev_compare (a b : List Int) (hn : a.length ≤ 1000000000000000) : Ev (fun k => slices_Compare_int64_int64.f k a b) (cmpL a b) := by
 have := compare_l0 a b hn a.length 0 (by omega) (by omega)
 unfold slices_Compare_int64_int64.f
 simpa using this
theorem or_two (x y : Int) : Ev (fun k => cmp_Or_int.f k [x, y]) (if x = 0 then y else x) := by
 unfold cmp_Or_int.f
 refine Ev.step (fun k => by rw [cmp_Or_int.l0]) ?_
 simp only [List.length_cons, List.length_nil, rd, List.getD_cons_zero, Int.toNat_zero]
 by_cases hx : x = 0
 · simp [hx]
   refine Ev.step (fun k => by rw [cmp_Or_int.l0]) ?_
   simp only [List.length_cons, List.length_nil, rd, show wrap64 1 = 1 from by unfold wrap64; omega, show (1 : Int).toNat = 1 from rfl, List.getD_cons_succ, List.getD_cons_zero]
   by_cases hy : y = 0
   · simp [hy]
     refine Ev.step (fun k => by rw [cmp_Or_int.l0]) ?_
     have w2 : wrap64 2 = 2 := by unfold wrap64; omega
     simp [w2]
     exact Ev.now _
   · simp [hy]
     exact Ev.now _
 · simp [hx]
   exact Ev.now _
theorem ev_wordOrder (a b : List Int) (hn : a.length ≤ 1000000000000000) : Ev (fun k => impl_wordOrder.f k a b) (wordCmp a b) := by
 unfold impl_wordOrder.f
 simp only [compareInt, Option.bind_some]
 refine Ev.bind (ev_compare a b hn) ?_
 refine Ev.bind (or_two _ _) (ev_val ?_)
 unfold wordCmp
 by_cases h1 : a.length < b.length
 · have : (a.length : Int) < (b.length : Int) := by omega
   simp [h1, this]
 · have h1' : ¬ (a.length : Int) < (b.length : Int) := by omega
   by_cases h2 : b.length < a.length
   · have : (b.length : Int) < (a.length : Int) := by omega
     simp [h1, h1', h2, this]
   · have h2' : ¬ (b.length : Int) < (a.length : Int) := by omega
     simp [h1, h1', h2, h2']
def termsOk (p : Int) : Option (List Int) → List S65 → Bool
 | _, [] => true
 | prev, t :: r => isWordB t.f0 && (decide (1 ≤ t.f1) && decide (t.f1 ≤ p - 1)) && (match prev with | none => true | some w => wlt w t.f0) && termsOk p (some t.f0) r
def isSumB (p : Int) (ts : List S65) : Bool := primeB p && decide (ts.length ≤ 200) && termsOk p none ts
theorem primeB_range {p : Int} (h : primeB p = true) : 2 ≤ p ∧ p ≤ 13 := by
 simp only [primeB, Bool.or_eq_true, beq_iff_eq] at h
 omega
theorem rdT_drop (l : List S65) (i : Nat) (h : i < l.length) : l.drop i = rd_T65 l (i : Int) :: l.drop (i + 1) := by
 rw [List.drop_eq_getElem_cons h]
 simp [rd_T65, List.getD_eq_getElem?_getD, List.getElem?_eq_getElem h]
theorem wrm1 (i n : Nat) (h0 : 0 < i) (h : i < n) (hn : n ≤ 1000000000000000) : wrap64 ((i : Int) - 1) = ((i - 1 : Nat) : Int) := by unfold wrap64; omega
def prevT (ts : List S65) (i : Nat) : Option (List Int) := if i = 0 then none else some (rd_T65 ts ((i - 1 : Nat) : Int)).f0
theorem isWordB_len {l : List Int} (h : isWordB l = true) : l.length ≤ 12 := by
 simp [isWordB] at h; exact h.1.1
theorem specIs_l0 (p : Int) (ts : List S65) (hp : primeB p = true) (hn : ts.length ≤ 200) : ∀ (d i : Nat), i + d = ts.length → (∀ j, j < i → isWordB (rd_T65 ts (j : Int)).f0 = true) → Ev (fun k => spec_l03Is.l0 k (i : Int) p ts) (termsOk p (prevT ts i) (ts.drop i)) := by
 have hpr := primeB_range hp
 have hwp : wrap64 (p - 1) = p - 1 := by unfold wrap64; omega
 intro d
 induction d with
 | zero =>
  intro i hi hw
  refine Ev.step (fun k => by rw [spec_l03Is.l0]) ?_
  simp only [if_neg (show ¬ ((i : Int) < (ts.length : Int)) by omega)]
  refine ev_val ?_
  rw [List.drop_of_length_le (by omega)]
  rfl
 | succ d ih =>
  intro i hi hw
  refine Ev.step (fun k => by rw [spec_l03Is.l0]) ?_
  simp only [if_pos (show (i : Int) < (ts.length : Int) by omega), if_pos (show (0 : Int) ≤ (i : Int) by omega)]
  rw [rdT_drop ts i (by omega)]
  simp only [termsOk]
  refine Ev.bind (ev_is _) ?_
  cases hwd : isWordB (rd_T65 ts (i : Int)).f0 with
  | false => simp only [Bool.false_eq_true, if_false, Bool.false_and]; exact Ev.now _
  | true =>
   simp only [if_true, Bool.true_and, hwp, spec_l01In.f]
   by_cases h1 : (1 : Int) ≤ (rd_T65 ts (i : Int)).f1
   · simp only [if_pos (show (rd_T65 ts (i : Int)).f1 ≥ 1 from h1), Option.bind_some, h1, decide_true, Bool.true_and]
     by_cases h2 : (rd_T65 ts (i : Int)).f1 ≤ p - 1
     · simp only [h2, decide_true, if_true, Bool.true_and, Option.bind_some]
       have hih := ih (i + 1) (by omega) (fun j hj => by
        by_cases hji : j = i
        · subst hji; exact hwd
        · exact hw j (by omega))
       have hpv : prevT ts (i + 1) = some (rd_T65 ts (i : Int)).f0 := by simp [prevT]
       rw [hpv] at hih
       by_cases h0 : i = 0
       · subst h0
         simp only [prevT, if_true, Bool.true_and]
         simp only [if_neg (show ¬ ((0 : Nat) : Int) > 0 by omega), wr1 0 ts.length (by omega) (by omega)]
         exact hih
       · simp only [if_pos (show (i : Int) > 0 by omega), wrm1 i ts.length (by omega) (by omega) (by omega), if_pos (show (0 : Int) ≤ ((i - 1 : Nat) : Int) by omega), if_pos (show ((i - 1 : Nat) : Int) < (ts.length : Int) by omega)]
         have hlen := isWordB_len (hw (i - 1) (by omega))
         refine Ev.bind (ev_before _ _ (by omega)) ?_
         have hpi : prevT ts i = some (rd_T65 ts ((i - 1 : Nat) : Int)).f0 := by simp [prevT, h0]
         simp only [hpi]
         cases wlt (rd_T65 ts ((i - 1 : Nat) : Int)).f0 (rd_T65 ts (i : Int)).f0 with
         | false => simp only [Bool.false_eq_true, if_false, Bool.false_and]; exact Ev.now _
         | true => simp only [if_true, Bool.true_and, wr1 i ts.length (by omega) (by omega)]; exact hih
     · simp only [h2, decide_false, Bool.false_eq_true, if_false, Bool.false_and]; exact Ev.now _
   · simp only [if_neg (show ¬ (rd_T65 ts (i : Int)).f1 ≥ 1 from h1), Option.bind_some, h1, decide_false, Bool.false_eq_true, if_false, Bool.false_and]; exact Ev.now _
theorem ev_sumIs (p : Int) (ts : List S65) : Ev (fun k => spec_l03Is.f k p ts) (isSumB p ts) := by
 unfold spec_l03Is.f isSumB
 simp only [ev_prime, Option.bind_some]
 cases hp : primeB p with
 | false =>
  simp only [Bool.false_eq_true, if_false, Bool.false_and]
  refine Ev.step (fun k => by rw [spec_l03Is.j0]) ?_
  simp only [if_true]
  exact Ev.now _
 | true =>
  simp only [if_true, Bool.true_and]
  refine Ev.step (fun k => by rw [spec_l03Is.j0]) ?_
  by_cases hl : ts.length ≤ 200
  · have h1 : decide ((ts.length : Int) > 200) = false := by simp; omega
    simp only [h1, Bool.false_eq_true, if_false, hl, decide_true, Bool.true_and]
    have := specIs_l0 p ts hp hl ts.length 0 (by omega) (fun j hj => by omega)
    simpa [prevT] using this
  · have h1 : decide ((ts.length : Int) > 200) = true := by simp; omega
    simp only [h1, if_true, hl, decide_false, Bool.false_and]
    exact Ev.now _
theorem implIs_l0 (p : Int) (ts : List S65) (hp : primeB p = true) (hn : ts.length ≤ 200) : ∀ (d i : Nat), i + d = ts.length → (∀ j, j < i → isWordB (rd_T65 ts (j : Int)).f0 = true) → Ev (fun k => impl_IsSum.l0 k ts (ts.length : Int) (i : Int) p ts) (termsOk p (prevT ts i) (ts.drop i)) := by
 have hpr := primeB_range hp
 have hwp : wrap64 (p - 1) = p - 1 := by unfold wrap64; omega
 intro d
 induction d with
 | zero =>
  intro i hi hw
  refine Ev.step (fun k => by rw [impl_IsSum.l0]) ?_
  simp only [if_neg (show ¬ ((i : Int) < (ts.length : Int)) by omega)]
  refine ev_val ?_
  rw [List.drop_of_length_le (by omega)]
  rfl
 | succ d ih =>
  intro i hi hw
  refine Ev.step (fun k => by rw [impl_IsSum.l0]) ?_
  simp only [if_pos (show (i : Int) < (ts.length : Int) by omega), if_pos (show (0 : Int) ≤ (i : Int) by omega)]
  rw [rdT_drop ts i (by omega)]
  simp only [termsOk]
  refine Ev.bind (ev_isWord _) ?_
  cases hwd : isWordB (rd_T65 ts (i : Int)).f0 with
  | false => simp only [Bool.false_eq_true, if_false, Bool.false_and]; exact Ev.now _
  | true =>
   simp only [if_true, Bool.true_and, hwp, impl_in.f]
   by_cases h1 : (1 : Int) ≤ (rd_T65 ts (i : Int)).f1
   · simp only [if_pos (show (rd_T65 ts (i : Int)).f1 ≥ 1 from h1), Option.bind_some, h1, decide_true, Bool.true_and]
     by_cases h2 : (rd_T65 ts (i : Int)).f1 ≤ p - 1
     · simp only [h2, decide_true, if_true, Bool.true_and, Option.bind_some]
       have hih := ih (i + 1) (by omega) (fun j hj => by
        by_cases hji : j = i
        · subst hji; exact hwd
        · exact hw j (by omega))
       have hpv : prevT ts (i + 1) = some (rd_T65 ts (i : Int)).f0 := by simp [prevT]
       rw [hpv] at hih
       by_cases h0 : i = 0
       · subst h0
         simp only [prevT, if_true, Bool.true_and]
         simp only [if_neg (show ¬ ((0 : Nat) : Int) > 0 by omega), wr1 0 ts.length (by omega) (by omega)]
         exact hih
       · simp only [if_pos (show (i : Int) > 0 by omega), wrm1 i ts.length (by omega) (by omega) (by omega), if_pos (show (0 : Int) ≤ ((i - 1 : Nat) : Int) by omega), if_pos (show ((i - 1 : Nat) : Int) < (ts.length : Int) by omega)]
         have hlen := isWordB_len (hw (i - 1) (by omega))
         refine Ev.bind (ev_wordOrder _ _ (by omega)) ?_
         have hpi : prevT ts i = some (rd_T65 ts ((i - 1 : Nat) : Int)).f0 := by simp [prevT, h0]
         simp only [hpi, wlt]
         by_cases h3 : wordCmp (rd_T65 ts ((i - 1 : Nat) : Int)).f0 (rd_T65 ts (i : Int)).f0 < 0
         · simp only [if_neg (show ¬ wordCmp (rd_T65 ts ((i - 1 : Nat) : Int)).f0 (rd_T65 ts (i : Int)).f0 ≥ 0 by omega), h3, decide_true, Bool.true_and, wr1 i ts.length (by omega) (by omega)]; exact hih
         · simp only [if_pos (show wordCmp (rd_T65 ts ((i - 1 : Nat) : Int)).f0 (rd_T65 ts (i : Int)).f0 ≥ 0 by omega), h3, decide_false, Bool.false_and]; exact Ev.now _
     · simp only [h2, decide_false, Bool.false_eq_true, if_false, Bool.false_and]; exact Ev.now _
   · simp only [if_neg (show ¬ (rd_T65 ts (i : Int)).f1 ≥ 1 from h1), Option.bind_some, h1, decide_false, Bool.false_eq_true, if_false, Bool.false_and]; exact Ev.now _
theorem ev_isSum (p : Int) (ts : List S65) : Ev (fun k => impl_IsSum.f k p ts) (isSumB p ts) := by
 unfold impl_IsSum.f isSumB
 refine Ev.bind (ev_isPrime p) ?_
 cases hp : primeB p with
 | false =>
  simp only [Bool.false_eq_true, if_false, Bool.false_and]
  refine Ev.step (fun k => by rw [impl_IsSum.j0]) ?_
  simp only [if_true]
  exact Ev.now _
 | true =>
  simp only [if_true, Bool.true_and]
  refine Ev.step (fun k => by rw [impl_IsSum.j0]) ?_
  by_cases hl : ts.length ≤ 200
  · have h1 : decide ((ts.length : Int) > 200) = false := by simp; omega
    simp only [h1, Bool.false_eq_true, if_false, hl, decide_true, Bool.true_and]
    have := implIs_l0 p ts hp hl ts.length 0 (by omega) (fun j hj => by omega)
    simpa [prevT] using this
  · have h1 : decide ((ts.length : Int) > 200) = true := by simp; omega
    simp only [h1, if_true, hl, decide_false, Bool.false_and]
    exact Ev.now _
end Go.Proofs.Ytgcgeoglhebonaa.P
end
section
namespace Go.Proofs.Ytgcgeoglhebonaa.P
open Go.RowKit Go.Proofs.YtgcgeoglhebonaaW.PrintWords Go.Proofs.YtgcgeoglhebonaaW.PrintLast
set_option linter.unusedVariables false
set_option linter.unusedSimpArgs false
theorem cmpL_refl : ∀ a : List Int, cmpL a a = 0
 | [] => rfl
 | x :: a => by simp only [cmpL, if_neg (Int.lt_irrefl x)]; exact cmpL_refl a
theorem cmpL_anti : ∀ a b : List Int, cmpL b a = - cmpL a b
 | [], [] => rfl
 | [], _ :: _ => rfl
 | _ :: _, [] => rfl
 | x :: a, y :: b => by
  simp only [cmpL]
  by_cases h : x < y
  · simp [h, show ¬ y < x by omega]
  · by_cases h2 : y < x
    · simp [h, h2]
    · simp only [if_neg h, if_neg h2]; exact cmpL_anti a b
theorem cmpL_eq : ∀ a b : List Int, cmpL a b = 0 → a = b
 | [], [], _ => rfl
 | [], _ :: _, h => by simp [cmpL] at h
 | _ :: _, [], h => by simp [cmpL] at h
 | x :: a, y :: b, h => by
  simp only [cmpL] at h
  by_cases h1 : x < y
  · simp [if_pos h1] at h
  · by_cases h2 : y < x
    · simp [if_neg h1, if_pos h2] at h
    · simp only [if_neg h1, if_neg h2] at h
      rw [cmpL_eq a b h, show x = y by omega]
theorem cmpL_trans : ∀ a b c : List Int, cmpL a b < 0 → cmpL b c < 0 → cmpL a c < 0
 | [], [], c, h, _ => by simp [cmpL] at h
 | [], _ :: _, [], _, h => by simp [cmpL] at h
 | [], _ :: _, _ :: _, _, _ => by simp [cmpL]
 | _ :: _, [], c, h, _ => by simp [cmpL] at h
 | _ :: _, _ :: _, [], _, h => by simp [cmpL] at h
 | x :: a, y :: b, z :: c, h1, h2 => by
  simp only [cmpL] at h1 h2 ⊢
  by_cases hxy : x < y
  · by_cases hyz : y < z
    · rw [if_pos (show x < z by omega)]; omega
    · by_cases hzy : z < y
      · simp [if_neg hyz, if_pos hzy] at h2
      · rw [if_pos (show x < z by omega)]; omega
  · by_cases hyx : y < x
    · simp [if_neg hxy, if_pos hyx] at h1
    · obtain rfl : x = y := by omega
      simp only [if_neg hxy] at h1
      by_cases hyz : x < z
      · rw [if_pos hyz]; omega
      · by_cases hzy : z < x
        · simp [if_neg hyz, if_pos hzy] at h2
        · simp only [if_neg hyz, if_neg hzy] at h2 ⊢
          exact cmpL_trans a b c h1 h2
theorem wordCmp_anti (a b : List Int) : wordCmp b a = - wordCmp a b := by
 unfold wordCmp
 by_cases h : a.length < b.length
 · rw [if_neg (by omega), if_pos h, if_pos h]; rfl
 · by_cases h2 : b.length < a.length
   · rw [if_pos h2, if_neg h, if_pos h2]
   · rw [if_neg h2, if_neg h, if_neg h, if_neg h2]; exact cmpL_anti a b
theorem wordCmp_eq {a b : List Int} (h : wordCmp a b = 0) : a = b := by
 unfold wordCmp at h
 by_cases h1 : a.length < b.length
 · simp [h1] at h
 · by_cases h2 : b.length < a.length
   · simp [h1, h2] at h
   · rw [if_neg h1, if_neg h2] at h; exact cmpL_eq a b h
theorem wordCmp_refl (a : List Int) : wordCmp a a = 0 := by
 unfold wordCmp; rw [if_neg (Nat.lt_irrefl _), if_neg (Nat.lt_irrefl _)]; exact cmpL_refl a
theorem wlt_irrefl (a : List Int) : wlt a a = false := by simp [wlt, wordCmp_refl]
theorem wlt_trans {a b c : List Int} (h1 : wlt a b = true) (h2 : wlt b c = true) : wlt a c = true := by
 simp only [wlt, decide_eq_true_eq] at *
 unfold wordCmp at *
 by_cases hab : a.length < b.length
 · by_cases hbc : b.length < c.length
   · rw [if_pos (by omega)]; omega
   · by_cases hcb : c.length < b.length
     · simp [hbc, hcb] at h2
     · rw [if_pos (by omega)]; omega
 · by_cases hba : b.length < a.length
   · simp [hab, hba] at h1
   · rw [if_neg hab, if_neg hba] at h1
     by_cases hbc : b.length < c.length
     · rw [if_pos (by omega)]; omega
     · by_cases hcb : c.length < b.length
       · simp [hbc, hcb] at h2
       · rw [if_neg hbc, if_neg hcb] at h2
         rw [if_neg (by omega), if_neg (by omega)]
         exact cmpL_trans a b c h1 h2
theorem wlt_asymm {a b : List Int} (h : wlt a b = true) : wlt b a = false := by
 have := wordCmp_anti a b
 simp only [wlt, decide_eq_true_eq, decide_eq_false_iff_not] at *
 omega
theorem wlt_ne {a b : List Int} (h : wlt a b = true) : a ≠ b := by
 rintro rfl; rw [wlt_irrefl] at h; cases h
theorem wlt_total {a b : List Int} (h : wlt a b = false) (hne : a ≠ b) : wlt b a = true := by
 have h1 := wordCmp_anti a b
 have h2 : wordCmp a b ≠ 0 := fun e => hne (wordCmp_eq e)
 simp only [wlt, decide_eq_true_eq, decide_eq_false_iff_not] at *
 omega
def cof : List S65 → List Int → Int
 | [], _ => 0
 | t :: l, w => if t.f0 = w then t.f1 else cof l w
def sortedT (l : List S65) : Prop := l.Pairwise fun a b => wlt a.f0 b.f0 = true
theorem coef_absent : ∀ (l : List S65) (w : List Int), (∀ t ∈ l, t.f0 ≠ w) → cof l w = 0
 | [], _, _ => rfl
 | t :: l, w, h => by rw [cof, if_neg (h t List.mem_cons_self)]; exact coef_absent l w (fun u hu => h u (List.mem_cons_of_mem _ hu))
theorem coef_above {t : S65} {l : List S65} (hs : sortedT (t :: l)) {w : List Int} (h : w = t.f0 ∨ wlt w t.f0 = true) : cof l w = 0 := by
 refine coef_absent l w fun u hu => ?_
 have h1 := (List.pairwise_cons.1 hs).1 u hu
 rcases h with rfl | h
 · exact (wlt_ne h1).symm
 · exact (wlt_ne (wlt_trans h h1)).symm
theorem sorted_unique : ∀ (l l' : List S65), sortedT l → sortedT l' → (∀ t ∈ l, t.f1 ≠ 0) → (∀ t ∈ l', t.f1 ≠ 0) → (∀ w, cof l w = cof l' w) → l = l'
 | [], [], _, _, _, _, _ => rfl
 | [], t :: l', _, _, _, h0, h => by
  have := h t.f0
  simp only [cof, if_true] at this
  exact absurd this.symm (h0 t List.mem_cons_self)
 | t :: l, [], _, _, h0, _, h => by
  have := h t.f0
  simp only [cof, if_true] at this
  exact absurd this (h0 t List.mem_cons_self)
 | t :: l, t' :: l', hs, hs', h0, h0', h => by
  have key : t.f0 = t'.f0 := by
   cases h1 : wlt t.f0 t'.f0 with
   | true =>
    have := h t.f0
    simp only [cof, if_true, if_neg (wlt_ne h1).symm] at this
    rw [coef_above hs' (.inr h1)] at this
    exact absurd this (h0 t List.mem_cons_self)
   | false =>
    by_cases he : t.f0 = t'.f0
    · exact he
    · have h2 := wlt_total h1 he
      have := h t'.f0
      simp only [cof, if_true, if_neg (wlt_ne h2).symm] at this
      rw [coef_above hs (.inr h2)] at this
      exact absurd this.symm (h0' t' List.mem_cons_self)
  have kv : t.f1 = t'.f1 := by
   have := h t.f0
   simpa only [cof, if_true, key.symm] using this
  have : t = t' := by cases t; cases t'; simp_all
  subst this
  congr 1
  refine sorted_unique l l' (List.pairwise_cons.1 hs).2 (List.pairwise_cons.1 hs').2 (fun u hu => h0 u (List.mem_cons_of_mem _ hu)) (fun u hu => h0' u (List.mem_cons_of_mem _ hu)) fun w => ?_
  by_cases hw : t.f0 = w
  · rw [coef_above hs (.inl hw.symm), coef_above hs' (.inl hw.symm)]
  · have := h w
    simpa only [cof, if_neg hw] using this
def putL (w : List Int) (u : Int) : Bool → List S65 → List S65
 | done, [] => if done then [] else [⟨w, u⟩]
 | done, t :: l =>
  if !done && wlt w t.f0 then ⟨w, u⟩ :: ((if t.f0 = w then [] else [t]) ++ putL w u true l)
  else (if t.f0 = w then [] else [t]) ++ putL w u done l
def putT (p : Int) (l : List S65) (w : List Int) (v : Int) : List S65 := putL w ((v + cof l w) % p) (decide ((v + cof l w) % p = 0)) l
theorem putL_same : ∀ (l : List S65) (w : List Int) (u : Int) (done : Bool), cof (putL w u done l) w = if done then 0 else u
 | [], w, u, done => by cases done <;> simp [putL, cof]
 | t :: l, w, u, done => by
  have ih := putL_same l w u
  unfold putL
  by_cases h : (!done && wlt w t.f0) = true
  · rw [if_pos h]
    simp only [Bool.and_eq_true, Bool.not_eq_true'] at h
    simp [cof, h.1]
  · rw [if_neg h]
    by_cases he : t.f0 = w
    · simp only [if_pos he, List.nil_append]; exact ih done
    · simp only [if_neg he, List.cons_append, List.nil_append, cof]; exact ih done
theorem putL_other : ∀ (l : List S65) (w : List Int) (u : Int) (done : Bool) (x : List Int), x ≠ w → cof (putL w u done l) x = cof l x
 | [], w, u, done, x, hx => by cases done <;> simp [putL, cof, Ne.symm hx]
 | t :: l, w, u, done, x, hx => by
  have ih := fun d => putL_other l w u d x hx
  unfold putL
  by_cases h : (!done && wlt w t.f0) = true
  · rw [if_pos h]
    by_cases he : t.f0 = w
    · simp only [if_pos he, List.nil_append, cof, if_neg (Ne.symm hx), ih]; rw [if_neg (by rw [he]; exact Ne.symm hx)]
    · simp only [if_neg he, List.cons_append, List.nil_append, cof, if_neg (Ne.symm hx), ih]
  · rw [if_neg h]
    by_cases he : t.f0 = w
    · simp only [if_pos he, List.nil_append, cof, ih]; rw [if_neg (by rw [he]; exact Ne.symm hx)]
    · simp only [if_neg he, List.cons_append, List.nil_append, cof, ih]
theorem putL_mem : ∀ (l : List S65) (w : List Int) (u : Int) (done : Bool) (t : S65), t ∈ putL w u done l → (done = false ∧ t = ⟨w, u⟩) ∨ (t ∈ l ∧ t.f0 ≠ w)
 | [], w, u, done, t, h => by cases done <;> simp [putL] at h; exact .inl ⟨rfl, h⟩
 | s :: l, w, u, done, t, h => by
  have one : ∀ t, t ∈ (if s.f0 = w then [] else [s]) → t = s ∧ t.f0 ≠ w := fun t ht => by
   by_cases he : s.f0 = w
   · simp [he] at ht
   · simp [he] at ht; subst ht; exact ⟨rfl, he⟩
  unfold putL at h
  by_cases hc : (!done && wlt w s.f0) = true
  · rw [if_pos hc] at h
    simp only [Bool.and_eq_true, Bool.not_eq_true'] at hc
    rcases List.mem_cons.1 h with h | h
    · exact .inl ⟨hc.1, h⟩
    · rcases List.mem_append.1 h with h | h
      · exact .inr ⟨by rw [(one t h).1]; exact List.mem_cons_self, (one t h).2⟩
      · rcases putL_mem l w u true t h with ⟨h, _⟩ | ⟨h, h2⟩
        · cases h
        · exact .inr ⟨List.mem_cons_of_mem _ h, h2⟩
  · rw [if_neg hc] at h
    rcases List.mem_append.1 h with h | h
    · exact .inr ⟨by rw [(one t h).1]; exact List.mem_cons_self, (one t h).2⟩
    · rcases putL_mem l w u done t h with h | ⟨h, h2⟩
      · exact .inl h
      · exact .inr ⟨List.mem_cons_of_mem _ h, h2⟩
theorem putL_sorted : ∀ (l : List S65) (w : List Int) (u : Int) (done : Bool), sortedT l → (done = true → True) → sortedT (putL w u done l) := by
 intro l w u
 induction l with
 | nil => intro done hs _; cases done <;> simp [putL, sortedT]
 | cons s l ih =>
  intro done hs _
  have hs1 := (List.pairwise_cons.1 hs).1
  have hs2 := (List.pairwise_cons.1 hs).2
  have hput : ∀ d, (d = false → wlt s.f0 w = true) → ∀ t ∈ putL w u d l, wlt s.f0 t.f0 = true := fun d hd t ht => by
   rcases putL_mem l w u d t ht with ⟨h, rfl⟩ | ⟨h, _⟩
   · exact hd h
   · exact hs1 t h
  have glue : ∀ d, (d = false → s.f0 ≠ w → wlt s.f0 w = true) → sortedT ((if s.f0 = w then [] else [s]) ++ putL w u d l) := fun d hd => by
   by_cases he : s.f0 = w
   · simp only [if_pos he, List.nil_append]; exact ih d hs2 (fun _ => trivial)
   · simp only [if_neg he, List.cons_append, List.nil_append]
     exact List.pairwise_cons.2 ⟨hput d (fun h => hd h he), ih d hs2 (fun _ => trivial)⟩
  unfold putL
  by_cases hc : (!done && wlt w s.f0) = true
  · rw [if_pos hc]
    simp only [Bool.and_eq_true, Bool.not_eq_true'] at hc
    refine List.pairwise_cons.2 ⟨fun t ht => ?_, glue true (fun h => by cases h)⟩
    rcases List.mem_append.1 ht with h | h
    · by_cases he : s.f0 = w
      · simp [he] at h
      · simp [he] at h; subst h; exact hc.2
    · rcases putL_mem l w u true t h with ⟨h, _⟩ | ⟨h, _⟩
      · cases h
      · exact wlt_trans hc.2 (hs1 t h)
  · rw [if_neg hc]
    refine glue done fun h hne => ?_
    have : wlt w s.f0 = false := by simpa [h] using hc
    exact wlt_total this (Ne.symm hne)
def tot : List (List Int × Int) → List Int → Int
 | [], _ => 0
 | a :: l, w => (if a.1 = w then a.2 else 0) + tot l w
structure SumOf (p : Int) (f : List Int → Int) (l : List S65) : Prop where
 sorted : sortedT l
 range : ∀ t ∈ l, 0 < t.f1 ∧ t.f1 < p
 at_ : ∀ w, cof l w = f w % p
theorem SumOf.unique {p : Int} {f g : List Int → Int} {l l' : List S65} (h : SumOf p f l) (h' : SumOf p g l') (hfg : ∀ w, f w % p = g w % p) : l = l' :=
 sorted_unique l l' h.sorted h'.sorted (fun t ht => by have := h.range t ht; omega) (fun t ht => by have := h'.range t ht; omega) (fun w => by rw [h.at_, h'.at_, hfg])
theorem SumOf.nil (p : Int) : SumOf p (fun _ => 0) [] := ⟨List.Pairwise.nil, (fun t ht => by cases ht), (fun w => by simp [cof])⟩
theorem SumOf.congr {p : Int} {f g : List Int → Int} {l : List S65} (h : SumOf p f l) (hfg : ∀ w, f w % p = g w % p) : SumOf p g l := ⟨h.sorted, h.range, fun w => by rw [h.at_, hfg]⟩
theorem SumOf.put {p : Int} {f : List Int → Int} {l : List S65} (hp : 0 < p) (h : SumOf p f l) (w : List Int) (v : Int) : SumOf p (fun x => f x + if w = x then v else 0) (putT p l w v) := by
 have hc : (v + cof l w) % p = (f w + v) % p := by rw [h.at_, Int.add_emod_emod, Int.add_comm]
 have hr : 0 ≤ (v + cof l w) % p ∧ (v + cof l w) % p < p := ⟨Int.emod_nonneg _ (by omega), Int.emod_lt_of_pos _ hp⟩
 refine ⟨putL_sorted l w _ _ h.sorted (fun _ => trivial), fun t ht => ?_, fun x => ?_⟩
 · rcases putL_mem l w _ _ t ht with ⟨h0, rfl⟩ | ⟨h0, _⟩
   · have : ¬ (v + cof l w) % p = 0 := by simpa using h0
     show 0 < (v + cof l w) % p ∧ (v + cof l w) % p < p
     omega
   · exact h.range t h0
 · unfold putT
   by_cases hx : x = w
   · subst hx
     rw [putL_same, if_pos rfl, ← hc]
     by_cases h0 : (v + cof l x) % p = 0 <;> simp [h0]
   · rw [putL_other _ _ _ _ _ hx, h.at_, if_neg (Ne.symm hx), Int.add_zero]
def putAllT (p : Int) : List S65 → List (List Int × Int) → List S65
 | l, [] => l
 | l, a :: r => putAllT p (putT p l a.1 a.2) r
theorem SumOf.putAll {p : Int} (hp : 0 < p) : ∀ (adds : List (List Int × Int)) {f : List Int → Int} {l : List S65}, SumOf p f l → SumOf p (fun x => f x + tot adds x) (putAllT p l adds)
 | [], f, l, h => h.congr (fun w => by simp [tot])
 | a :: r, f, l, h => by
  have := SumOf.putAll hp r (h.put hp a.1 a.2)
  refine this.congr fun w => ?_
  simp only [tot, Int.add_assoc]
def addsT (l : List S65) (k : Int) : List (List Int × Int) := l.map fun t => (t.f0, k * t.f1)
theorem tot_adds {l : List S65} (hs : sortedT l) (k : Int) (w : List Int) : tot (addsT l k) w = k * cof l w := by
 induction l with
 | nil => simp [addsT, tot, cof]
 | cons t l ih =>
  have ih' := ih (List.pairwise_cons.1 hs).2
  simp only [addsT, List.map_cons, tot, cof] at ih' ⊢
  by_cases h : t.f0 = w
  · rw [if_pos h, if_pos h, ih', coef_above hs (.inl h.symm)]; simp
  · rw [if_neg h, if_neg h, ih']; omega
structure GOf (p : Int) (f : List Int → Int) (G : List (List Int × Int)) : Prop where
 keys : G.Pairwise (fun a b => a.1 ≠ b.1)
 range : ∀ a ∈ G, 0 ≤ a.2 ∧ a.2 < p
 at_ : ∀ w, (kvGet G w).getD 0 = f w % p
theorem GOf.nil (p : Int) : GOf p (fun _ => 0) [] := ⟨List.Pairwise.nil, (fun a ha => by cases ha), (fun w => by simp [kvGet_nil])⟩
theorem GOf.congr {p : Int} {f g : List Int → Int} {G : List (List Int × Int)} (h : GOf p f G) (hfg : ∀ w, f w % p = g w % p) : GOf p g G := ⟨h.keys, h.range, fun w => by rw [h.at_, hfg]⟩
def addG (p : Int) (G : List (List Int × Int)) (w : List Int) (v : Int) : List (List Int × Int) := kvPut G w (((kvGet G w).getD 0 + v) % p)
theorem GOf.add {p : Int} {f : List Int → Int} {G : List (List Int × Int)} (hp : 0 < p) (h : GOf p f G) (w : List Int) (v : Int) : GOf p (fun x => f x + if w = x then v else 0) (addG p G w v) := by
 refine ⟨kvPut_keys _ _ _ h.keys, fun a ha => ?_, fun x => ?_⟩
 · rcases kvPut_mem _ _ _ _ ha with rfl | ha
   · exact ⟨Int.emod_nonneg _ (by omega), Int.emod_lt_of_pos _ hp⟩
   · exact h.range a ha
 · unfold addG
   by_cases hx : x = w
   · subst hx
     rw [kvGet_put_same, Option.getD_some, h.at_, if_pos rfl, Int.emod_add_emod]
   · rw [kvGet_put_other _ _ _ _ hx, h.at_, if_neg (Ne.symm hx), Int.add_zero]
def addAllG (p : Int) : List (List Int × Int) → List (List Int × Int) → List (List Int × Int)
 | G, [] => G
 | G, a :: r => addAllG p (addG p G a.1 a.2) r
theorem addAllG_append (p : Int) : ∀ (a b G : List (List Int × Int)), addAllG p G (a ++ b) = addAllG p (addAllG p G a) b
 | [], b, G => rfl
 | x :: a, b, G => addAllG_append p a b _
theorem GOf.addAll {p : Int} (hp : 0 < p) : ∀ (adds : List (List Int × Int)) {f : List Int → Int} {G : List (List Int × Int)}, GOf p f G → GOf p (fun x => f x + tot adds x) (addAllG p G adds)
 | [], f, G, h => h.congr (fun w => by simp [tot])
 | a :: r, f, G, h => by
  have := GOf.addAll hp r (h.add hp a.1 a.2)
  refine this.congr fun w => ?_
  simp only [tot, Int.add_assoc]
theorem coef_mem : ∀ (l : List S65) (t : S65), l.Pairwise (fun a b => a.f0 ≠ b.f0) → t ∈ l → cof l t.f0 = t.f1
 | s :: l, t, hd, ht => by
  rw [List.pairwise_cons] at hd
  rcases List.mem_cons.1 ht with rfl | ht
  · simp [cof]
  · rw [cof, if_neg (hd.1 t ht)]; exact coef_mem l t hd.2 ht
def mkT (a : List Int × Int) : S65 := ⟨a.1, a.2⟩
def termsG (G : List (List Int × Int)) : List S65 := (G.filter fun a => decide (a.2 ≠ 0)).map mkT
theorem SumOf.of_perm {p : Int} {f : List Int → Int} {G : List (List Int × Int)} (h : GOf p f G) (l : List S65) (hl : l.Perm (termsG G)) (hs : l.Pairwise fun a b => wlt b.f0 a.f0 = false) : SumOf p f l := by
 have hd0 : (termsG G).Pairwise (fun a b => a.f0 ≠ b.f0) := by
  unfold termsG
  rw [List.pairwise_map]
  exact (h.keys.filter _).imp fun hne => hne
 have hd : l.Pairwise (fun a b => a.f0 ≠ b.f0) := (hl.symm.pairwise_iff (fun hxy => Ne.symm hxy)).1 hd0
 have hmem : ∀ t, t ∈ l ↔ (t.f0, t.f1) ∈ G ∧ t.f1 ≠ 0 := fun t => by
  rw [hl.mem_iff]
  unfold termsG
  rw [List.mem_map]
  constructor
  · rintro ⟨a, ha, rfl⟩
    rw [List.mem_filter] at ha
    exact ⟨ha.1, by simpa [mkT] using ha.2⟩
  · rintro ⟨h1, h2⟩
    exact ⟨_, List.mem_filter.2 ⟨h1, by simpa using h2⟩, rfl⟩
 refine ⟨(hs.and hd).imp fun hab => wlt_total hab.1 (Ne.symm hab.2), fun t ht => ?_, fun w => ?_⟩
 · have h1 := (hmem t).1 ht
   have := h.range _ h1.1
   simp only at this
   omega
 · rw [← h.at_ w]
   cases hg : kvGet G w with
   | none =>
    refine coef_absent l w fun t ht hw => ?_
    have h1 := ((hmem t).1 ht).1
    exact kvGet_none hg _ h1 hw
   | some v =>
    have hm := mem_of_kvGet hg
    by_cases h0 : v = 0
    · subst h0
      refine coef_absent l w fun t ht hw => ?_
      have h1 := (hmem t).1 ht
      have h2 := kvGet_of_mem h.keys h1.1
      simp only [hw, hg, Option.some.injEq] at h2
      exact h1.2 h2.symm
    · exact coef_mem l ⟨w, v⟩ hd ((hmem _).2 ⟨hm, h0⟩)
end Go.Proofs.Ytgcgeoglhebonaa.P
end
section
namespace Go.Proofs.Ytgcgeoglhebonaa.P
open Go.RowKit Go.Maps Go.Proofs.YtgcgeoglhebonaaW.PrintWords Go.Proofs.YtgcgeoglhebonaaW.PrintLast Go.Proofs.YtgcgeoglhebonaaW.PrintMore
set_option linter.unusedVariables false
set_option linter.unusedSimpArgs false
def smallW (l : List Int) : Prop := l.length ≤ 1000 ∧ ∀ x ∈ l, 0 ≤ x ∧ x < 100
def mget (ms : List TermV) (l : List Int) : Option TermV := ms.find? fun e => decide (e.l = l)
def mput : List TermV → TermV → List TermV
 | [], e => [e]
 | a :: r, e => if a.l = e.l then e :: r else a :: mput r e
def aggT (e : TermV) : Value := .agg #[.slice e.A e.l.length e.c, .int .i64 e.v]
def kvT (ms : List TermV) : List (ByteArray × Value) := ms.map fun e => (textB e.l, aggT e)
def gT (ms : List TermV) : List (List Int × Int) := ms.map fun e => (e.l, e.v)
theorem kvT_get {l : List Int} (hl : smallW l) : ∀ {ms : List TermV}, (∀ e ∈ ms, smallW e.l) → kvGet (kvT ms) (textB l) = (mget ms l).map aggT
 | [], _ => rfl
 | a :: r, h => by
  have ih := kvT_get hl (ms := r) (fun e he => h e (List.mem_cons_of_mem _ he))
  have ha := h a List.mem_cons_self
  unfold kvT mget at *
  rw [List.map_cons, kvGet_cons, List.find?_cons]
  by_cases he : a.l = l
  · subst he; simp
  · rw [if_neg (fun e => he (textB_inj ha.2 hl.2 e))]
    simp only [he, decide_false]; exact ih
theorem gT_get (l : List Int) : ∀ (ms : List TermV), kvGet (gT ms) l = (mget ms l).map (·.v)
 | [] => rfl
 | a :: r => by
  have ih := gT_get l r
  unfold gT mget at *
  rw [List.map_cons, kvGet_cons, List.find?_cons]
  by_cases he : a.l = l
  · simp [he]
  · simp only [he, if_false, decide_false]; exact ih
theorem kvT_put {e : TermV} (hl : smallW e.l) : ∀ {ms : List TermV}, (∀ a ∈ ms, smallW a.l) → kvPut (kvT ms) (textB e.l) (aggT e) = kvT (mput ms e)
 | [], _ => rfl
 | a :: r, h => by
  have ih := kvT_put hl (ms := r) (fun b hb => h b (List.mem_cons_of_mem _ hb))
  have ha := h a List.mem_cons_self
  unfold kvT at *
  simp only [List.map_cons, kvPut, mput]
  by_cases he : a.l = e.l
  · simp [he]
  · rw [if_neg (fun x => he (textB_inj ha.2 hl.2 x)), if_neg he, List.map_cons, ih]
theorem gT_put (e : TermV) : ∀ (ms : List TermV), kvPut (gT ms) e.l e.v = gT (mput ms e)
 | [] => rfl
 | a :: r => by
  have ih := gT_put e r
  unfold gT at *
  simp only [List.map_cons, kvPut, mput]
  by_cases he : a.l = e.l
  · simp [he]
  · rw [if_neg he, if_neg he, List.map_cons, ih]
theorem mput_mem : ∀ {ms : List TermV} {e a : TermV}, a ∈ mput ms e → a = e ∨ a ∈ ms
 | [], e, a, h => by simp [mput] at h; exact .inl h
 | b :: r, e, a, h => by
  unfold mput at h
  by_cases he : b.l = e.l
  · rw [if_pos he] at h
    rcases List.mem_cons.1 h with h | h
    · exact .inl h
    · exact .inr (List.mem_cons_of_mem _ h)
  · rw [if_neg he] at h
    rcases List.mem_cons.1 h with h | h
    · exact .inr (by rw [h]; exact List.mem_cons_self)
    · rcases mput_mem h with h | h
      · exact .inl h
      · exact .inr (List.mem_cons_of_mem _ h)
structure IsG (w : World) (base g b : Nat) (p : Int) (G : List (List Int × Int)) : Prop where
 blk : w.heap[g]? = some (.cells #[.int .i64 p, .map (some b)] 89 (0, 0))
 geb : base ≤ g
 beb : base ≤ b
 map : ∃ ms, mapKV w Value.string b (kvT ms) ∧ gT ms = G ∧ ∀ e ∈ ms, smallW e.l ∧ e.l.length ≤ e.c ∧ (Kd.int .i64).C w e.A e.l.length e.l
theorem C_other {w w1 : World} {A : Option Addr} {n : Nat} {l : List Int} {b : Nat} {kv : List (ByteArray × Value)} (h : (Kd.int .i64).C w A n l) (hm : mapKV w Value.string b kv) (hk : ∀ k, k < w.heap.size → k ≠ b → w1.heap[k]? = w.heap[k]?) : (Kd.int .i64).C w1 A n l := by
 have h1 := Kd.reads_of_C (enc := Value.int .i64) (d := (0 : Int)) (h1 := fun _ => rfl) h
 refine Kd.C_of_reads (enc := Value.int .i64) (d := (0 : Int)) (h1 := fun _ => rfl) ⟨h1.1, h1.2.1, fun hn => ?_⟩
 obtain ⟨ad, e, hc⟩ := h1.2.2 hn
 refine ⟨ad, e, fun j hj => ?_⟩
 have h2 := hc j hj
 have hlt := World.block_lt_of_cell? w _ h2
 have hne : (ad.add j).block ≠ b := fun he => by
  obtain ⟨es, clock, hb, _⟩ := hm
  rw [World.cell?, he, hb] at h2
  simp at h2
 have := hk _ hlt hne
 simpa [World.cell?, this] using h2
theorem IsG.below {w w1 : World} {base g b : Nat} {p : Int} {G : List (List Int × Int)} (h : IsG w base g b p G) (hb : Below w.heap.size w w1) : IsG w1 base g b p G := by
 obtain ⟨h1, h2, h3, ms, h4, h5, h6⟩ := h
 exact ⟨blk_below h1 hb, h2, h3, ms, h4.below hb, h5, fun e he => ⟨(h6 e he).1, (h6 e he).2.1, Kd.C_below (h6 e he).2.2 hb⟩⟩
theorem IsG.size {w : World} {base g b : Nat} {p : Int} {G : List (List Int × Int)} (h : IsG w base g b p G) : g < w.heap.size ∧ b < w.heap.size ∧ g ≠ b := by
 obtain ⟨h1, h2, h3, ms, h4, h5, h6⟩ := h
 refine ⟨(Array.getElem?_eq_some_iff.1 h1).1, h4.lt, fun e => ?_⟩
 obtain ⟨es, clock, hb, _⟩ := h4
 rw [← e, h1] at hb
 cases hb
theorem keyStr : KeyEnc Try.prog 9 Value.string := keyEnc_string Try.underlying9
theorem zeroT (w : World) : (zeroValue 65).run Try.prog w = .ok (.agg #[.slice none 0 0, .int .i64 0]) w := by kernel_rfl
theorem newGather_any (p : Int) (w : World) :
 Calls Try.prog 57 #[.int .i64 p] w fun e w' => ∃ g b, e = .returned (.pointer (some ⟨g, 0, none⟩)) ∧ IsG w' w.heap.size g b p [] ∧ Below w.heap.size w w' := by
 have hmm := @run_makeMap Try.prog
 go_enter Try.func57, Try.ntmps57
 go_wp2
 go_ret
 have hb := (below_alloc (below_alloc (Below.refl w.heap.size w) (.map #[] 0)) (.cells #[.int .i64 p, .map (some w.heap.size)] 89))
 refine ⟨_, _, by rfl, ⟨?_, ?_, Nat.le_refl _, [], ?_, rfl, fun e he => by cases he⟩, hb⟩
 · have := (MapKept.heap_alloc (w.alloc (.map #[] 0)) (.cells #[.int .i64 p, .map (some w.heap.size)] 89)).1
   rwa [show (w.alloc (.map #[] 0)).heap.size = w.heap.size + 1 from by simp] at this
 · simp
 · exact (mapKV_made w Value.string).alloc _
theorem rest_eq (n p : Int) (h0 : 0 < p) (h1 : p ≤ 1000000) (h2 : -1000000000000 ≤ n) (h3 : n ≤ 1000000000000) : impl_rest.f n p = some (n % p) := by
 have b1 := Int.tmod_lt_of_pos n h0
 have b2 := Int.lt_tmod_of_pos n h0
 have e1 : wrap64 (Int.tmod n p + p) = Int.tmod n p + p := by unfold wrap64; omega
 unfold impl_rest.f
 rw [if_neg (by omega), e1, Int.tmod_eq_emod_of_nonneg (by omega), Int.add_emod_right, Int.tmod_def, Int.sub_mul_emod_self_left]
theorem add_any (base g b : Nat) (p : Int) (G : List (List Int × Int)) (A : Option Addr) (c : Nat) (l : List Int) (v : Int) (w : World) (hG : IsG w base g b p G) (hp : 0 < p) (hp2 : p ≤ 1000000) (hv : -100000000000 ≤ v ∧ v ≤ 100000000000)
 (hr : (Kd.int .i64).C w A l.length l) (hc : l.length ≤ c) (hs : smallW l) (hval : ∀ a ∈ G, 0 ≤ a.2 ∧ a.2 < p) :
 Calls Try.prog 61 #[.pointer (some ⟨g, 0, none⟩), .slice A l.length c, .int .i64 v] w fun e w' => e = .returned (.tuple #[]) ∧ IsG w' base g b p (addG p G l v) ∧ w.grownBy w' (some b) := by
 have hu := Try.underlying89
 have hu2 := Try.underlying65
 have HT := am (wordText_any A c l w hr (Nat.le_trans hs.1 (by omega)))
 have HG := am hG
 have HR := am hr
 have HS := am hs
 clear hG hr hs
 go_enter Try.func61, Try.ntmps61
 go_wp2_with fail
 go_must (refine HT.out.mono ?_)
 rintro e w1 ⟨rfl, hb1⟩
 have HG1 := am (HG.out.below hb1)
 have HR1 := am (Kd.C_below HR.out hb1)
 have HB1 := am hb1
 obtain ⟨Xa, Xn, Xc, o, ho, hob, hlk⟩ : ∃ Xa Xn Xc o, (kvGet G l).getD 0 = o ∧ (0 ≤ o ∧ o < p) ∧ ∀ W, Below w1.heap.size w1 W → (Instr.lookup 87 (.map (some b)) (.string (textB l)) false).run Try.prog W = .ok (.agg #[.slice Xa Xn Xc, .int .i64 o]) W := by
  obtain ⟨ms, h4, h5, h6⟩ := HG1.out.map
  have hg := kvT_get HS.out (ms := ms) (fun e he => (h6 e he).1)
  have hg2 := gT_get l ms
  rw [h5] at hg2
  have hrun := fun W (hb : Below w1.heap.size w1 W) => (h4.below hb).lookup false keyStr Try.underlying87 (zeroT W) (textB l)
  rw [hg] at hrun
  cases hm : mget ms l with
  | none =>
   rw [hm] at hrun hg2
   exact ⟨none, 0, 0, 0, by rw [hg2]; rfl, ⟨by omega, hp⟩, hrun⟩
  | some e =>
   rw [hm] at hrun hg2
   exact ⟨e.A, e.l.length, e.c, e.v, by rw [hg2]; rfl, hval _ (mem_of_kvGet hg2), hrun⟩
 have hrest := rest_eq (o + v) p hp hp2 (by omega) (by omega)
 have hwr : wrap64 (o + v) = o + v := by unfold wrap64; omega
 have HSS := am (fun W (hb : Below w1.heap.size w1 W) => show W.cell? ⟨g, 0, none⟩ = some (.int .i64 p) ∧ W.cell? ⟨g, 1, none⟩ = some (.map (some b)) ∧ (Instr.lookup 87 (.map (some b)) (.string (textB l)) false).run Try.prog W = .ok (.agg #[.slice Xa Xn Xc, .int .i64 o]) W from
  ⟨(blk_cell (HG1.out.below hb).blk 0).trans rfl, (blk_cell (HG1.out.below hb).blk 1).trans rfl, hlk W hb⟩)
 have HO := am ho
 have HRC := am (fun W => impl_rest.calls (wrap64 (o + v)) p _ W (by rw [hwr]; exact hrest))
 clear hwr
 clear ho hob hlk hb1 hrest hval
 have hfield : ∀ W, (Instr.field 65 (.agg #[.slice Xa Xn Xc, .int .i64 o]) 1).run Try.prog W = .ok (.int .i64 o) W := fun W => by kernel_rfl
 generalize hKT : textB l = T at *
 have HKT := am hKT
 clear hKT
 go_wp2_with fail
 refine start_ (n := 22) (S := fun w' => w'.cell? ⟨g, 0, none⟩ = some (.int .i64 p) ∧ w'.cell? ⟨g, 1, none⟩ = some (.map (some b)) ∧ (Instr.lookup 87 (.map (some b)) (.string T) false).run Try.prog w' = .ok (.agg #[.slice Xa Xn Xc, .int .i64 o]) w') (ds := [21]) (bs 0 22) (by kernel_rfl) rfl rfl (HSS.out _ (below_drew (Below.refl _ w1))) (fun hHeld => ?_)
 refine pure_ (i := 0) (N := (some 9)) (v := ?_) (a' := ?_) (bs 1 22) rfl rfl (by kernel_rfl) (fun _ _ _ h => h) (Or.inl ⟨by rfl, ?_⟩) ?_ ?_; rotate_left; intro w'; go_simp; with_reducible rfl; rotate_left; simp only [Act.put, q1, q2, q3, i64_w, i32_w]; rfl
 refine pure_ (i := 1) (N := (some 10)) (v := ?_) (a' := ?_) (bs 3 22) rfl rfl (by kernel_rfl) (fun _ _ _ h => h) (Or.inl ⟨by rfl, ?_⟩) ?_ ?_; rotate_left; intro w'; go_simp; with_reducible rfl; rotate_left; simp only [Act.put, q1, q2, q3, i64_w, i32_w]; rfl
 refine pure_ (i := 2) (N := (some 11)) (v := ?_) (a' := ?_) (bs 7 22) rfl rfl (by kernel_rfl) (fun _ _ _ h => h) (Or.inl ⟨by rfl, ?_⟩) ?_ ?_; rotate_left; intro w'; go_simp; with_reducible rfl; rotate_left; simp only [Act.put, q1, q2, q3, i64_w, i32_w]; rfl
 refine take_ (i := 3) (N := (some 12)) (v := ?_) (a' := ?_) (bs 15 22) rfl rfl (by kernel_rfl) (fun _ _ _ h => h) (Or.inl ⟨by rfl, ?_⟩) hHeld ?_ ?_; rotate_left; rintro w' ⟨s0, s1, s2⟩; go_simp; with_reducible rfl; rotate_left; simp only [Act.put, q1, q2, q3, i64_w, i32_w]; rfl
 refine pure_ (i := 4) (N := (some 13)) (v := ?_) (a' := ?_) (bs 31 22) rfl rfl (by kernel_rfl) (fun _ _ _ h => h) (Or.inl ⟨by rfl, ?_⟩) ?_ ?_; rotate_left; intro w'; go_simp; with_reducible rfl; rotate_left; simp only [Act.put, q1, q2, q3, i64_w, i32_w]; rfl
 refine pure_ (i := 5) (N := (some 14)) (v := ?_) (a' := ?_) (bs 63 22) rfl rfl (by kernel_rfl) (fun _ _ _ h => h) (Or.inl ⟨by rfl, ?_⟩) ?_ ?_; rotate_left; intro w'; go_simp; with_reducible rfl; rotate_left; simp only [Act.put, q1, q2, q3, i64_w, i32_w]; rfl
 refine pure_ (i := 6) (N := (some 15)) (v := ?_) (a' := ?_) (bs 127 22) rfl rfl (by kernel_rfl) (fun _ _ _ h => h) (Or.inl ⟨by rfl, ?_⟩) ?_ ?_; rotate_left; intro w'; go_simp; with_reducible rfl; rotate_left; simp only [Act.put, q1, q2, q3, i64_w, i32_w]; rfl
 refine pure_ (i := 7) (N := (some 16)) (v := ?_) (a' := ?_) (bs 255 22) rfl rfl (by kernel_rfl) (fun _ _ _ h => h) (Or.inl ⟨by rfl, ?_⟩) ?_ ?_; rotate_left; intro w'; go_simp; with_reducible rfl; rotate_left; simp only [Act.put, q1, q2, q3, i64_w, i32_w]; rfl
 refine pure_ (i := 8) (N := (some 17)) (v := ?_) (a' := ?_) (bs 511 22) rfl rfl (by kernel_rfl) (fun _ _ _ h => h) (Or.inl ⟨by rfl, ?_⟩) ?_ ?_; rotate_left; intro w'; go_simp; with_reducible rfl; rotate_left; simp only [Act.put, q1, q2, q3, i64_w, i32_w]; rfl
 refine take_ (i := 9) (N := (some 18)) (v := ?_) (a' := ?_) (bs 1023 22) rfl rfl (by kernel_rfl) (fun _ _ _ h => h) (Or.inl ⟨by rfl, ?_⟩) hHeld ?_ ?_; rotate_left; rintro w' ⟨s0, s1, s2⟩; go_simp; with_reducible rfl; rotate_left; simp only [Act.put, q1, q2, q3, i64_w, i32_w]; rfl
 refine pure_ (i := 10) (N := (some 19)) (v := ?_) (a' := ?_) (bs 2047 22) rfl rfl (by kernel_rfl) (fun _ _ _ h => h) (Or.inl ⟨by rfl, ?_⟩) ?_ ?_; rotate_left; intro w'; go_simp; with_reducible rfl; rotate_left; simp only [Act.put, q1, q2, q3, i64_w, i32_w]; rfl
 refine take_ (i := 11) (N := (some 20)) (v := ?_) (a' := ?_) (bs 4095 22) rfl rfl (by kernel_rfl) (fun _ _ _ h => h) (Or.inl ⟨by rfl, ?_⟩) hHeld ?_ ?_; rotate_left; rintro w' ⟨s0, s1, s2⟩; go_simp; with_reducible rfl; rotate_left; simp only [Act.put, q1, q2, q3, i64_w, i32_w]; rfl
 refine pure_ (i := 12) (N := (some 21)) (v := ?_) (a' := ?_) (bs 8191 22) rfl rfl (by kernel_rfl) (fun _ _ _ h => h) (Or.inl ⟨by rfl, ?_⟩) ?_ ?_; rotate_left; intro w'; go_simp; with_reducible rfl; rotate_left; simp only [Act.put, q1, q2, q3, i64_w, i32_w]; rfl
 refine pure_ (i := 13) (N := (some 22)) (v := ?_) (a' := ?_) (bs 16383 22) rfl rfl (by kernel_rfl) (fun _ _ _ h => h) (Or.inl ⟨by rfl, ?_⟩) ?_ ?_; rotate_left; intro w'; go_simp; with_reducible rfl; rotate_left; simp only [Act.put, q1, q2, q3, i64_w, i32_w]; rfl
 refine pure_ (i := 14) (N := (some 23)) (v := ?_) (a' := ?_) (bs 32767 22) rfl rfl (by kernel_rfl) (fun _ _ _ h => h) (Or.inl ⟨by rfl, ?_⟩) ?_ ?_; rotate_left; intro w'; go_simp; with_reducible rfl; rotate_left; simp only [Act.put, q1, q2, q3, i64_w, i32_w]; rfl
 refine pure_ (i := 15) (N := (some 24)) (v := ?_) (a' := ?_) (bs 65535 22) rfl rfl (by kernel_rfl) (fun _ _ _ h => h) (Or.inl ⟨by rfl, ?_⟩) ?_ ?_; rotate_left; intro w'; go_simp; with_reducible rfl; rotate_left; simp only [Act.put, q1, q2, q3, i64_w, i32_w]; rfl
 refine pure_ (i := 16) (N := (some 25)) (v := ?_) (a' := ?_) (bs 131071 22) rfl rfl (by kernel_rfl) (fun _ _ _ h => h) (Or.inl ⟨by rfl, ?_⟩) ?_ ?_; rotate_left; intro w'; go_simp; with_reducible rfl; rotate_left; simp only [Act.put, q1, q2, q3, i64_w, i32_w]; rfl
 refine pure_ (i := 17) (N := (some 26)) (v := ?_) (a' := ?_) (bs 262143 22) rfl rfl (by kernel_rfl) (fun _ _ _ h => h) (Or.inl ⟨by rfl, ?_⟩) ?_ ?_; rotate_left; intro w'; go_simp; with_reducible rfl; rotate_left; simp only [Act.put, q1, q2, q3, i64_w, i32_w]; rfl
 refine take_ (i := 18) (N := (some 27)) (v := ?_) (a' := ?_) (bs 524287 22) rfl rfl (by kernel_rfl) (fun _ _ _ h => h) (Or.inl ⟨by rfl, ?_⟩) hHeld ?_ ?_; rotate_left; rintro w' ⟨s0, s1, s2⟩; go_simp; with_reducible rfl; rotate_left; simp only [Act.put, q1, q2, q3, i64_w, i32_w]; rfl
 refine one_ (i := 19) (N := (some 28)) (bs 1048575 22) rfl rfl (by kernel_rfl) (by decide) (fun K hK => ?_)
 refine goes_ Try.func86 (by kernel_rfl) rfl #[.int .i64 (wrap64 (o + v)), .int .i64 p] (by rfl) rfl rfl (by (try simp only [List.map_toArray, List.map_cons, List.map_nil]); rfl) ?_
 refine (HRC.out _).mono ?_
 rintro e w2 ⟨rfl, ⟨n, rfl⟩⟩
 refine ⟨_, rfl, ?_⟩
 have HB2 := am (show Below w1.heap.size w1 (w1.drew.drewN n) from pw_below_drewN (below_drew (Below.refl _ w1)) n)
 generalize w1.drew.drewN n = w2 at *
 refine hK.out _ _ (HSS.out _ HB2.out) (fun hHeld => ?_)
 clear hK K
 refine norm_ (a' := ?_) ?_ ?_; rotate_left; show Act.put _ (some 28) _ = _; simp only [Act.put, q1, q2, q3, i64_w, i32_w]; rfl
 refine pure_ (i := 20) (N := (some 29)) (v := ?_) (a' := ?_) (bs 2097151 22) rfl rfl (by kernel_rfl) (fun _ _ _ h => h) (Or.inl ⟨by rfl, ?_⟩) ?_ ?_; rotate_left; intro w'; go_simp; with_reducible rfl; rotate_left; simp only [Act.put, q1, q2, q3, i64_w, i32_w]; rfl
 refine last_ (i := 21) (N := none) (bs 4194303 22) rfl rfl (by kernel_rfl) (by decide) (fun K hK => ?_)
 have HG2 := am (HG1.out.below HB2.out)
 obtain ⟨ms, h4, h5, h6⟩ := HG2.out.map
 obtain ⟨w3, hrun, hm3, hg3, hs3⟩ := mapKV.update (P := Try.prog) (t := 87) (e := 65) h4 keyStr Try.underlying87 T (.agg #[.slice A l.length c, .int .i64 ((o + v) % p)])
 have HM3 := am hm3
 have HG3 := am hg3
 have HH4 := am h4
 have HMS := am (And.intro h5 h6)
 have HS3 := am hs3
 clear hm3 hg3 h4 h5 h6 hs3
 refine skip_ (w1 := w3) (by rfl) rfl ?_ ?_
 · go_simp
 refine hK.out _ _ ?_
 clear hK K hrun
 refine done_ (by kernel_rfl) ?_
 go_wp2_with fail
 go_end0
 have hk : ∀ k, k < w2.heap.size → k ≠ b → w3.heap[k]? = w2.heap[k]? := fun k h1 h2 => HG3.out.block k h1 (fun e => h2 (by injection e))
 have hg := HG2.out
 have hsz := (HB1.out).size
 have hsz2 := (HB2.out).size
 have hw2 : Below w.heap.size w w2 := below_step HB1.out HB2.out
 refine ⟨by rfl, ⟨(hk g hg.size.1 hg.size.2.2).trans hg.blk, hg.geb, hg.beb, mput ms ⟨A, c, l, (o + v) % p⟩, ?_, ?_, fun e he => ?_⟩, ⟨HG3.out.os.trans hw2.os, HG3.out.tape.trans hw2.tape, HG3.out.output.trans hw2.output, by rw [HS3.out]; omega, fun k h1 h2 => (hk k (by omega) (fun e => h2 (by rw [e]))).trans (hw2.block k h1)⟩⟩
 · have := kvT_put (e := ⟨A, c, l, (o + v) % p⟩) HS.out (ms := ms) (fun a ha => (HMS.out.2 a ha).1)
   rw [← this, HKT.out]
   exact HM3.out
 · have := gT_put ⟨A, c, l, (o + v) % p⟩ ms
   rw [← this, HMS.out.1]
   show kvPut G l ((o + v) % p) = addG p G l v
   rw [addG, HO.out]
 · rcases mput_mem he with rfl | he
   · exact ⟨HS.out, hc, C_other (Kd.C_below HR1.out HB2.out) HH4.out hk⟩
   · have := HMS.out.2 e he
     exact ⟨this.1, this.2.1, C_other this.2.2 HH4.out hk⟩
end Go.Proofs.Ytgcgeoglhebonaa.P
end
section
namespace Go.Proofs.Ytgcgeoglhebonaa.P
open Go.RowKit Go.Proofs.YtgcgeoglhebonaaW.PrintWords Go.Proofs.YtgcgeoglhebonaaW.PrintLast
set_option linter.unusedVariables false
set_option linter.unusedSimpArgs false
theorem even_twice : ∀ (n : Nat) (l : List Int), l.length ≤ n → (∀ x ∈ l, l.count x = 2) → l.length % 2 = 0
 | _, [], _, _ => rfl
 | 0, x :: l, hn, _ => by simp at hn
 | n + 1, x :: l, hn, h => by
  have h1 := h x List.mem_cons_self
  have hc : ((x :: l).filter fun y => decide (y ≠ x)).length + (x :: l).count x = (x :: l).length := by
   rw [List.count_eq_length_filter]
   have : ∀ m : List Int, (m.filter fun y => decide (y ≠ x)).length + (m.filter fun y => y == x).length = m.length := fun m => by
    induction m with
    | nil => rfl
    | cons y m ih => by_cases hy : y = x <;> simp [hy] at ih ⊢ <;> omega
   exact this _
  have h2 := even_twice n ((x :: l).filter fun y => decide (y ≠ x)) (by
   have e := List.length_filter_le (fun y : Int => decide (y ≠ x)) l
   rw [List.filter_cons_of_neg (by simp)]
   simp at hn; omega) (fun y hy => by
   rw [List.mem_filter] at hy
   have hyx : y ≠ x := by simpa using hy.2
   rw [List.count_filter (by simpa using hyx)]
   exact h y hy.1)
  omega
theorem word_even {w : List Int} (h : isWordB w = true) : w.length % 2 = 0 := by
 simp only [isWordB, Bool.and_eq_true, decide_eq_true_eq] at h
 exact even_twice _ w (Nat.le_refl _) fun x hx => by simpa using List.all_eq_true.1 h.1.2 x hx
theorem word_len {w : List Int} (h : isWordB w = true) : w.length ≤ 12 := by
 simp only [isWordB, Bool.and_eq_true, decide_eq_true_eq] at h
 exact h.1.1
theorem nrmFrom_range : ∀ (l met : List Int), ∀ x ∈ nrmFrom met l, 0 ≤ x ∧ x < (met.length + l.length : Nat)
 | [], met, x, h => by simp [nrmFrom] at h
 | y :: l, met, x, h => by
  rcases List.mem_cons.1 h with rfl | h
  · have : met.idxOf y ≤ met.length := List.idxOf_le_length
    simp only [List.length_cons]; omega
  · have := nrmFrom_range l _ x h
    have hl : (if y ∈ met then met else met ++ [y]).length ≤ met.length + 1 := by split <;> simp
    simp only [List.length_cons]; omega
theorem nrm_range (l : List Int) : ∀ x ∈ nrm l, 0 ≤ x ∧ x < (l.length : Int) := fun x hx => by
 have := nrmFrom_range l [] x hx
 simp at this; omega
theorem word_range {w : List Int} (h : isWordB w = true) : ∀ x ∈ w, 0 ≤ x ∧ x < 12 := by
 have hl := word_len h
 simp only [isWordB, Bool.and_eq_true, decide_eq_true_eq] at h
 intro x hx
 rw [← h.2] at hx
 have := nrm_range w x hx
 omega
structure GoodSum (p : Int) (ts : List S65) : Prop where
 prime : primeB p = true
 len : ts.length ≤ 200
 sorted : sortedT ts
 word : ∀ t ∈ ts, isWordB t.f0 = true
 range : ∀ t ∈ ts, 1 ≤ t.f1 ∧ t.f1 ≤ p - 1
theorem termsOk_good (p : Int) : ∀ (ts : List S65) (prev : Option (List Int)), termsOk p prev ts = true → sortedT ts ∧ (∀ w, prev = some w → ∀ t ∈ ts, wlt w t.f0 = true) ∧ (∀ t ∈ ts, isWordB t.f0 = true) ∧ ∀ t ∈ ts, 1 ≤ t.f1 ∧ t.f1 ≤ p - 1
 | [], prev, _ => ⟨List.Pairwise.nil, (fun _ _ t ht => by cases ht), (fun t ht => by cases ht), (fun t ht => by cases ht)⟩
 | t :: ts, prev, h => by
  simp only [termsOk, Bool.and_eq_true, decide_eq_true_eq] at h
  obtain ⟨⟨⟨h1, h2, h3⟩, h4⟩, h5⟩ := h
  obtain ⟨i1, i2, i3, i4⟩ := termsOk_good p ts _ h5
  have i2' := i2 t.f0 rfl
  refine ⟨List.pairwise_cons.2 ⟨i2', i1⟩, fun w hw u hu => ?_, fun u hu => ?_, fun u hu => ?_⟩
  · subst hw
    rcases List.mem_cons.1 hu with rfl | hu
    · exact h4
    · exact wlt_trans h4 (i2' u hu)
  · rcases List.mem_cons.1 hu with rfl | hu
    · exact h1
    · exact i3 u hu
  · rcases List.mem_cons.1 hu with rfl | hu
    · exact ⟨h2, h3⟩
    · exact i4 u hu
theorem isSumB_good {p : Int} {ts : List S65} (h : isSumB p ts = true) : GoodSum p ts := by
 simp only [isSumB, Bool.and_eq_true, decide_eq_true_eq] at h
 obtain ⟨h1, _, h3, h4⟩ := termsOk_good p ts none h.2
 exact ⟨h.1.1, h.1.2, h1, h3, h4⟩
theorem wlt_len {a b : List Int} (h : wlt a b = true) : a.length ≤ b.length := by
 simp only [wlt, decide_eq_true_eq] at h
 unfold wordCmp at h
 by_cases h1 : a.length < b.length
 · omega
 · by_cases h2 : b.length < a.length
   · simp [h1, h2] at h
   · omega
def mostC (ts : List S65) : Nat := match ts.getLast? with | none => 0 | some t => t.f0.length / 2
theorem mostC_le {ts : List S65} (h : sortedT ts) : ∀ t ∈ ts, t.f0.length / 2 ≤ mostC ts := by
 intro t ht
 unfold mostC
 cases hl : ts.getLast? with
 | none => rw [List.getLast?_eq_none_iff.1 hl] at ht; cases ht
 | some u =>
  obtain ⟨d, rfl⟩ := List.getLast?_eq_some_iff.1 hl
  show t.f0.length / 2 ≤ u.f0.length / 2
  rcases List.mem_append.1 ht with h1 | h1
  · have := wlt_len ((List.pairwise_append.1 h).2.2 t h1 u (by simp)); omega
  · obtain rfl : t = u := by simpa using h1
    exact Nat.le_refl _
theorem mostC_mem {ts : List S65} (h : ts ≠ []) : ∃ t ∈ ts, t.f0.length / 2 = mostC ts := by
 unfold mostC
 cases hl : ts.getLast? with
 | none => exact absurd (List.getLast?_eq_none_iff.1 hl) h
 | some u => exact ⟨u, List.mem_of_getLast? hl, rfl⟩
def joinW (a b : List Int) : List Int := a ++ b.map fun x => x + ((a.length / 2 : Nat) : Int)
def fitsB (n : Nat) (t u : S65) : Bool := decide (t.f0.length / 2 + u.f0.length / 2 ≤ n)
def prodAdds (n : Nat) (x y : List S65) : List (List Int × Int) := x.flatMap fun t => (y.filter fun u => fitsB n t u).map fun u => (joinW t.f0 u.f0, t.f1 * u.f1)
def joinOver (n : Nat) (x y : List S65) : Bool := !x.isEmpty && !y.isEmpty && decide (n < mostC x + mostC y)
theorem joinOver_iff {n : Nat} {x y : List S65} (hx : sortedT x) (hy : sortedT y) : joinOver n x y = false ↔ ∀ t ∈ x, ∀ u ∈ y, t.f0.length / 2 + u.f0.length / 2 ≤ n := by
 unfold joinOver
 constructor
 · intro h t ht u hu
   have h1 := mostC_le hx t ht
   have h2 := mostC_le hy u hu
   have e1 : x.isEmpty = false := by cases x <;> simp_all
   have e2 : y.isEmpty = false := by cases y <;> simp_all
   simp [e1, e2] at h
   omega
 · intro h
   cases x with
   | nil => rfl
   | cons a x =>
    cases y with
    | nil => rfl
    | cons b y =>
     obtain ⟨t, ht, e1⟩ := mostC_mem (ts := a :: x) (by simp)
     obtain ⟨u, hu, e2⟩ := mostC_mem (ts := b :: y) (by simp)
     have := h t ht u hu
     simp only [List.isEmpty_cons, Bool.not_false, Bool.true_and, decide_eq_false_iff_not]
     omega
end Go.Proofs.Ytgcgeoglhebonaa.P
end
section
namespace Go.Proofs.Ytgcgeoglhebonaa.P
open Go.RowKit Go.Maps Go.Proofs.YtgcgeoglhebonaaW.PrintWords Go.Proofs.YtgcgeoglhebonaaW.PrintLast Go.Proofs.YtgcgeoglhebonaaW.PrintMore
set_option linter.unusedVariables false
set_option linter.unusedSimpArgs false
theorem grown_below {w w1 : World} (h : Below w.heap.size w w1) (row : Option Nat) : w.grownBy w1 row := ⟨h.os, h.tape, h.output, h.size, fun k hk _ => h.block k hk⟩
theorem grown_then {w w1 w2 : World} {row : Option Nat} (h : w.grownBy w1 row) (h2 : w1.grownBy w2 row) : w.grownBy w2 row := World.grownBy.trans h h2
theorem below_grown {w0 w w1 : World} {b : Nat} (hB : Below w0.heap.size w0 w) (hb : w0.heap.size ≤ b) (hg : w.grownBy w1 (some b)) : Below w0.heap.size w0 w1 := hB.grown hg hB.size (fun j hj => by cases hj; exact hb)
theorem TRow.otherB {w w1 : World} {base r : Nat} {u : Value} {es : List TermV} (h : TRow w base u es) (hr : ∀ cells t, w.heap[r]? ≠ some (.cells cells t (0, 0))) (hg : w.grownBy w1 (some r)) : TRow w1 base u es := by
 have hne : ∀ k cells t, w.heap[k]? = some (.cells cells t (0, 0)) → some k ≠ some r := fun k cells t hc he => by
  injection he with he
  rw [he] at hc
  exact hr _ _ hc
 refine ⟨own_move h.row (fun k hk => ?_), fun e he hl => ?_, h.apart⟩
 · obtain ⟨cells, hc⟩ := own_typed h.row k hk
   exact hg.block k (own_lt h.row k hk) (hne _ _ _ hc)
 · refine Kd.R_mono (Kd.R_move (Kd.R_bound (h.words e he hl)) (fun k hk => ?_)) (fun _ _ => trivial)
   obtain ⟨_, _, hlt, q, _, cells, hc⟩ := hk
   exact hg.block k hlt (hne _ _ _ hc)
theorem take_succ_V (l : List S65) (k : Nat) (h : k < l.length) : l.take (k + 1) = l.take k ++ [rd_T65 l (k : Int)] := by
 rw [List.take_succ_eq_append_getElem h]
 simp [rd_T65, List.getD_eq_getElem?_getD, List.getElem?_eq_getElem h]
theorem rdV_mem' (l : List S65) (k : Nat) (h : k < l.length) : rd_T65 l (k : Int) ∈ l := by
 simp only [rd_T65, Int.toNat_natCast, List.getD_eq_getElem?_getD, List.getElem?_eq_getElem h, Option.getD_some]
 exact List.getElem_mem h
theorem mul_bd (a b : Int) (ha : -1000 ≤ a ∧ a ≤ 1000) (hb : -1000 ≤ b ∧ b ≤ 1000) : -1000000 ≤ a * b ∧ a * b ≤ 1000000 := by
 have h := Nat.mul_le_mul (show a.natAbs ≤ 1000 by omega) (show b.natAbs ≤ 1000 by omega)
 rw [← Int.natAbs_mul] at h
 omega
theorem addAllG_range {p : Int} (hp : 0 < p) : ∀ (adds G : List (List Int × Int)), (∀ a ∈ G, 0 ≤ a.2 ∧ a.2 < p) → ∀ a ∈ addAllG p G adds, 0 ≤ a.2 ∧ a.2 < p
 | [], G, h => h
 | x :: r, G, h => addAllG_range hp r _ (fun a ha => by
  rcases kvPut_mem _ _ _ _ ha with rfl | ha
  · exact ⟨Int.emod_nonneg _ (by omega), Int.emod_lt_of_pos _ hp⟩
  · exact h a ha)
theorem addAll_any (base g b : Nat) (p q : Int) (G : List (List Int × Int)) (A : Option Addr) (c : Nat) (ts : List S65) (k : Int) (w : World) (hG : IsG w base g b p G) (hp : 0 < p) (hp2 : p ≤ 1000000)
 (hx : ∀ W, w.grownBy W (some b) → k65.C W A ts.length ts) (hs : ∀ t ∈ ts, smallW t.f0 ∧ -1000 ≤ t.f1 ∧ t.f1 ≤ 1000) (hk : -1000 ≤ k ∧ k ≤ 1000) (hval : ∀ a ∈ G, 0 ≤ a.2 ∧ a.2 < p) (hlen : ts.length ≤ 1000000000) :
 Calls Try.prog 58 #[.pointer (some ⟨g, 0, none⟩), .agg #[.int .i64 q, .slice A ts.length c], .int .i64 k] w fun e w' => e = .returned (.pointer (some ⟨g, 0, none⟩)) ∧ IsG w' base g b p (addAllG p G (addsT ts k)) ∧ w.grownBy w' (some b) := by
 have hu := Try.underlying28
 have hu2 := Try.underlying65
 have HX := am hx
 have HS := am hs
 have HV := am hval
 have hb0 := below_alloc (Below.refl w.heap.size w) (.cells #[.int .i64 q, .slice A ts.length c] 28)
 have HG := am (hG.below hb0)
 have HB0 := am (grown_below hb0 (some b))
 clear hG hx hs hval hb0
 go_enter Try.func58, Try.ntmps58
 go_wp2
 go_loopw [12] (fun i wr => ∃ j : Nat, j ≤ ts.length ∧ i = .int .i64 j ∧ Aside0 (IsG wr base g b p (addAllG p G (addsT (ts.take j) k))) ∧ Aside0 (w.grownBy wr (some b)))
  (fun i _ => ts.length - (intOf i).toNat)
 case atStart => exact ⟨0, Nat.zero_le _, rfl, ⟨by simpa [addsT, addAllG] using HG.out⟩, HB0⟩
 case round =>
  obtain ⟨j, hj, rfl, HG2, HB2⟩ := hrel
  clear HG HB0
  by_cases hlt : j < ts.length
  · obtain ⟨ad, A1, c1, e0, hx0, hx1, hl1, hi1⟩ := at_T65 (HX.out _ HB2.out) (j : Int) (by omega) (by omega)
    cases e0
    have hm := rdV_mem' ts j hlt
    have hts := take_succ_V ts j hlt
    have hsm := HS.out _ hm
    rw [Int.toNat_natCast] at hx0 hx1
    generalize rd_T65 ts (j : Int) = t at *
    have hmul : wrap64 (t.f1 * k) = t.f1 * k := by
     have h1 := mul_bd t.f1 k hsm.2 hk
     unfold wrap64; omega
    have hbx := below_alloc (Below.refl wr.heap.size wr) (.cells #[.slice A1 t.f0.length c1, .int .i64 t.f1] 65)
    have hbl := MapKept.heap_alloc wr (.cells #[.slice A1 t.f0.length c1, .int .i64 t.f1] 65)
    have HC := am (add_any base g b p (addAllG p G (addsT (ts.take j) k)) A1 c1 t.f0 (t.f1 * k) _ (HG2.out.below hbx) hp hp2 (by have := mul_bd t.f1 k hsm.2 hk; omega) (Kd.C_below hi1 hbx) hl1 hsm.1 (addAllG_range hp _ _ HV.out))
    have HBX := am (grown_below hbx (some b))
    have HT := am hts
    have hz0 := (blk_cell hbl.1 0).trans (rfl : _ = some (Value.slice A1 t.f0.length c1))
    have hz1 := (blk_cell hbl.1 1).trans (rfl : _ = some (Value.int .i64 t.f1))
    clear hbx hbl hi1 hts hm hsm
    go_wp2_with (first
     | (go_at_call 61; go_must (refine HC.out.mono ?_); rintro e w1 ⟨rfl, hg1, hb1⟩; have HG3 := am hg1; have HB3 := am (grown_then (grown_then HB2.out HBX.out) hb1); clear hg1 hb1)
     | go_in)
    go_roundw
    case rel => exact ⟨j + 1, by omega, by go_num, ⟨by
     rw [HT.out]
     have e : addsT (ts.take j ++ [t]) k = addsT (ts.take j) k ++ [(t.f0, t.f1 * k)] := by simp [addsT, Int.mul_comm]
     rw [e, addAllG_append]
     exact HG3.out⟩, HB3⟩
    case measure => simp [intOf]; omega
  · obtain rfl : j = ts.length := by omega
    rw [List.take_length] at HG2
    go_wp2
    go_ret
    exact ⟨by rfl, HG2.out, HB2.out⟩
end Go.Proofs.Ytgcgeoglhebonaa.P
end
section
namespace Go.Proofs.Ytgcgeoglhebonaa.P
open Go.Shelf
set_option linter.unusedVariables false
def laysSortT_ren : Go.Shelf.Ren := ⟨fun | 6 => 83 | 15 => 97 | 14 => 96 | 28 => 109 | 29 => 110 | 20 => 101 | 21 => 102 | 22 => 103 | 23 => 104 | 24 => 105 | 25 => 106 | 26 => 107 | 27 => 108 | 46 => 112 | 47 => 113 | 48 => 114 | 49 => 115 | 50 => 116 | 57 => 117 | n => n, fun | 22 => 26 | 24 => 65 | 25 => 91 | 3 => 3 | 39 => 98 | 0 => 0 | 53 => 116 | 55 => 118 | 4 => 4 | 46 => 109 | 45 => 108 | 50 => 113 | 5 => 5 | 9 => 9 | 66 => 119 | 70 => 123 | 76 => 125 | 77 => 126 | n => n, fun | n => n⟩
theorem laysSortT : Go.Proofs.SlLaysF0.n6 Try.prog laysSortT_ren := {
 mixed := by kernel_rfl
 f6 := ⟨"slices.SortFunc[[]loop.example/g01303/impl.Term,loop.example/g01303/impl.Term]", by decide, Try.func83.trans (congrArg some (by kernel_rfl))⟩
 f14 := ⟨"slices.pdqsortCmpFunc[loop.example/g01303/impl.Term]", by decide, Try.func96.trans (congrArg some (by kernel_rfl))⟩
 f15 := Try.func97.trans (congrArg some (by kernel_rfl))
 f20 := ⟨"slices.insertionSortCmpFunc[loop.example/g01303/impl.Term]", by decide, Try.func101.trans (congrArg some (by kernel_rfl))⟩
 f21 := ⟨"slices.heapSortCmpFunc[loop.example/g01303/impl.Term]", by decide, Try.func102.trans (congrArg some (by kernel_rfl))⟩
 f22 := ⟨"slices.breakPatternsCmpFunc[loop.example/g01303/impl.Term]", by decide, Try.func103.trans (congrArg some (by kernel_rfl))⟩
 f23 := ⟨"slices.choosePivotCmpFunc[loop.example/g01303/impl.Term]", by decide, Try.func104.trans (congrArg some (by kernel_rfl))⟩
 f24 := ⟨"slices.reverseRangeCmpFunc[loop.example/g01303/impl.Term]", by decide, Try.func105.trans (congrArg some (by kernel_rfl))⟩
 f25 := ⟨"slices.partialInsertionSortCmpFunc[loop.example/g01303/impl.Term]", by decide, Try.func106.trans (congrArg some (by kernel_rfl))⟩
 f26 := ⟨"slices.partitionEqualCmpFunc[loop.example/g01303/impl.Term]", by decide, Try.func107.trans (congrArg some (by kernel_rfl))⟩
 f27 := ⟨"slices.partitionCmpFunc[loop.example/g01303/impl.Term]", by decide, Try.func108.trans (congrArg some (by kernel_rfl))⟩
 f28 := Try.func109.trans (congrArg some (by kernel_rfl))
 f29 := Try.func110.trans (congrArg some (by kernel_rfl))
 f46 := ⟨"slices.siftDownCmpFunc[loop.example/g01303/impl.Term]", by decide, Try.func112.trans (congrArg some (by kernel_rfl))⟩
 f47 := Try.func113.trans (congrArg some (by kernel_rfl))
 f48 := Try.func114.trans (congrArg some (by kernel_rfl))
 f49 := ⟨"slices.medianAdjacentCmpFunc[loop.example/g01303/impl.Term]", by decide, Try.func115.trans (congrArg some (by kernel_rfl))⟩
 f50 := ⟨"slices.medianCmpFunc[loop.example/g01303/impl.Term]", by decide, Try.func116.trans (congrArg some (by kernel_rfl))⟩
 f57 := ⟨"slices.order2CmpFunc[loop.example/g01303/impl.Term]", by decide, Try.func117.trans (congrArg some (by kernel_rfl))⟩
 t0 := Try.underlying0
 a0 := Try.isAgg0
 z0 := Try.sizeOf0
 v0 := Try.zeroValue0
 t3 := Try.underlying3
 a3 := Try.isAgg3
 z3 := Try.sizeOf3
 v3 := Try.zeroValue3
 t4 := Try.underlying4
 a4 := Try.isAgg4
 z4 := Try.sizeOf4
 v4 := Try.zeroValue4
 t5 := Try.underlying5
 a5 := Try.isAgg5
 z5 := Try.sizeOf5
 v5 := Try.zeroValue5
 t9 := Try.underlying9
 a9 := Try.isAgg9
 z9 := Try.sizeOf9
 v9 := Try.zeroValue9
 t22 := Try.underlying26
 a22 := Try.isAgg26
 z22 := Try.sizeOf26
 v22 := Try.zeroValue26
 t25 := Try.underlying91
 a25 := Try.isAgg91
 z25 := Try.sizeOf91
 v25 := Try.zeroValue91
 t39 := Try.underlying98
 a39 := Try.isAgg98
 z39 := Try.sizeOf98
 v39 := Try.zeroValue98
 t45 := Try.underlying108
 a45 := Try.isAgg108
 z45 := Try.sizeOf108
 v45 := Try.zeroValue108
 t46 := Try.underlying109
 a46 := Try.isAgg109
 z46 := Try.sizeOf109
 v46 := Try.zeroValue109
 t50 := Try.underlying113
 a50 := Try.isAgg113
 z50 := Try.sizeOf113
 v50 := Try.zeroValue113
 t53 := Try.underlying116
 a53 := Try.isAgg116
 z53 := Try.sizeOf116
 v53 := Try.zeroValue116
 t55 := Try.underlying118
 a55 := Try.isAgg118
 z55 := Try.sizeOf118
 v55 := Try.zeroValue118
 t66 := Try.underlying119
 a66 := Try.isAgg119
 z66 := Try.sizeOf119
 v66 := Try.zeroValue119
 t70 := Try.underlying123
 a70 := Try.isAgg123
 z70 := Try.sizeOf123
 v70 := Try.zeroValue123
 t76 := Try.underlying125
 a76 := Try.isAgg125
 z76 := Try.sizeOf125
 v76 := Try.zeroValue125
 t77 := Try.underlying126
 a77 := Try.isAgg126
 z77 := Try.sizeOf126
 v77 := Try.zeroValue126 }
end Go.Proofs.Ytgcgeoglhebonaa.P
end
section
namespace Go.Proofs.Ytgcgeoglhebonaa.P
open Go.RowKit Go.Maps Go.Proofs.YtgcgeoglhebonaaW.PrintWords Go.Proofs.YtgcgeoglhebonaaW.PrintLast Go.Proofs.YtgcgeoglhebonaaW.PrintMore
open Go.Sort (grow SWO PermIn SortedIn HoldsK)
set_option linter.unusedVariables false
set_option linter.unusedSimpArgs false
theorem grow_drewN (w : World) (n : Nat) (os : Array Obj) : (grow w os).drewN n = grow (w.drewN n) os := rfl
theorem alloc_grow (w : World) (o : Obj) : w.alloc o = grow w #[o] := by
 unfold grow World.alloc
 congr 1
theorem drewN_two (w : World) (a b : Nat) : (w.drewN a).drewN b = w.drewN (a + b) := by simp [World.drewN, Nat.add_assoc]
theorem grow_two (w : World) (a b : Array Obj) : grow (grow w a) b = grow w (a ++ b) := by unfold grow; simp [Array.append_assoc]
theorem wordOrder_grown (A0 : Option Addr) (c0 : Nat) (l0 : List Int) (A1 : Option Addr) (c1 : Nat) (l1 : List Int) (w : World) (hr0 : Kd.C (Kd.int .i64) w A0 l0.length l0) (hc0 : l0.length ≤ c0) (hr1 : Kd.C (Kd.int .i64) w A1 l1.length l1) (hc1 : l1.length ≤ c1) (hl0 : l0.length ≤ 1000000) (hl1 : l1.length ≤ 1000000) :
 Calls Try.prog 81 #[.slice A0 l0.length c0, .slice A1 l1.length c1] w fun e w' => e = .returned (.int .i64 (wordCmp l0 l1)) ∧ ∃ q os, w' = grow (w.drewN q) os := by
 obtain ⟨k1, hk1⟩ := (ev_compare l0 l1 (by omega)).rounds
 obtain ⟨x, hx⟩ : ∃ x : Int, x = (if (l0.length : Int) < l1.length then -1 else if (l1.length : Int) < l0.length then 1 else 0) := ⟨_, rfl⟩
 obtain ⟨y, hy⟩ : ∃ y : Int, y = cmpL l0 l1 := ⟨_, rfl⟩
 have hcm := compareInt (l0.length : Int) (l1.length : Int)
 rw [← hx] at hcm
 rw [← hy] at hk1
 obtain ⟨k2, hk2⟩ := (or_two x y).rounds
 have hres : (if x = 0 then y else x) = wordCmp l0 l1 := by
  subst hx hy
  unfold wordCmp
  by_cases h1 : l0.length < l1.length
  · simp [h1]
  · by_cases h2 : l1.length < l0.length
    · simp [h1, h2]
    · simp [h1, h2]
 rw [hres] at hk2
 have H1 := am (fun W => cmp_Compare_int.calls (l0.length : Int) (l1.length : Int) x W hcm)
 have H2 := am (fun n => slices_Compare_int64_int64.calls k1 A0 c0 l0 A1 c1 l1 y (w.drewN n) hr0 hc0 hr1 hc1 hk1)
 generalize wordCmp l0 l1 = r at *
 have H3 := am (fun A c W (h : (Kd.int .i64).C W A 2 [x, y]) (hc : 2 ≤ c) => cmp_Or_int.calls k2 A c [x, y] r W h hc hk2)
 clear hr0 hr1 hcm hk1 hk2 hx hy hres
 go_enter Try.func81, Try.ntmps81
 go_wp2_with fail
 go_must (refine (H1.out _).mono ?_)
 rintro e w' ⟨rfl, ⟨n1, rfl⟩⟩
 go_wp2_with fail
 go_must (refine (H2.out _).mono ?_)
 rintro e w' ⟨rfl, ⟨n2, rfl⟩⟩
 go_wp2_with fail
 go_must (refine (H3.out _ _ _ ?hC (by omega)).mono ?_)
 case hC =>
  have hal := (MapKept.heap_alloc ((w.drewN n1).drewN n2) (.cells #[.int .i64 x, .int .i64 y] 3)).1
  refine Kd.C_of_reads (enc := Value.int .i64) (d := (0 : Int)) (h1 := fun _ => rfl) ⟨rfl, by omega, fun _ => ⟨_, rfl, fun j hj => ?_⟩⟩
  have h2 := fun j => blk_cell hal j
  rcases j with _ | _ | j
  · exact (h2 0).trans rfl
  · exact (h2 1).trans rfl
  · exact absurd hj (by simp)
 rintro e w' ⟨rfl, ⟨n3, rfl⟩⟩
 go_wp2_with fail
 go_ret
 exact ⟨by rfl, n1 + n2 + n3, _, by rw [alloc_grow, grow_drewN, drewN_two]⟩
theorem cmpT_any (x y : TermV) (W : World) (hx : (Kd.int .i64).C W x.A x.l.length x.l) (hxc : x.l.length ≤ x.c) (hxl : x.l.length ≤ 1000000) (hy : (Kd.int .i64).C W y.A y.l.length y.l) (hyc : y.l.length ≤ y.c) (hyl : y.l.length ≤ 1000000) :
 Calls Try.prog 84 #[.agg (encT x).toArray, .agg (encT y).toArray] W fun e w' => e = .returned (.int .i64 (wordCmp x.l y.l)) ∧ ∃ q os, w' = grow (W.drewN q) os := by
 obtain ⟨xA, xc, xl, xv⟩ := x
 obtain ⟨yA, yc, yl, yv⟩ := y
 simp only at *
 show Calls Try.prog 84 #[.agg #[.slice xA xl.length xc, .int .i64 xv], .agg #[.slice yA yl.length yc, .int .i64 yv]] W _
 have hu := Try.underlying65
 have hb := below_alloc (below_alloc (Below.refl W.heap.size W) (.cells #[.slice xA xl.length xc, .int .i64 xv] 65)) (.cells #[.slice yA yl.length yc, .int .i64 yv] 65)
 have HC := am (wordOrder_grown xA xc xl yA yc yl _ (Kd.C_below hx hb) hxc (Kd.C_below hy hb) hyc hxl hyl)
 clear hx hy hb
 generalize wordCmp xl yl = r at *
 go_enter Try.func84, Try.ntmps84
 go_wp2_with fail
 go_must (refine HC.out.mono ?_)
 rintro e w' ⟨rfl, ⟨q, os, rfl⟩⟩
 go_wp2_with fail
 go_ret
 exact ⟨by rfl, q, #[Obj.cells #[.slice xA xl.length xc, .int .i64 xv] 65] ++ #[Obj.cells #[.slice yA yl.length yc, .int .i64 yv] 65] ++ os, by rw [alloc_grow, alloc_grow, grow_drewN, grow_drewN, grow_two, grow_two, Array.append_assoc]⟩
theorem wordCmp_swo {α : Type} (f : α → List Int) : SWO (ltOf fun x y : α => wordCmp (f x) (f y)) := by
 have e : ∀ x y : α, ltOf (fun x y : α => wordCmp (f x) (f y)) x y = wlt (f x) (f y) := fun x y => rfl
 refine ⟨fun x => by rw [e]; exact wlt_irrefl _, fun x y z h1 h2 => by rw [e] at *; exact wlt_trans h1 h2, fun x y z h1 h2 => ?_⟩
 rw [e] at *
 cases h3 : wlt (f x) (f z) with
 | false => rfl
 | true =>
  by_cases hxy : f x = f y
  · rw [hxy, h2] at h3; cases h3
  · have h4 := wlt_trans (wlt_total h1 hxy) h3
    rw [h4] at h2; cases h2
def RT (w : World) (g : Nat) : Type := {e : TermV // e.l.length ≤ e.c ∧ e.l.length ≤ 1000000 ∧ ∀ W, w.grownBy W (some g) → (Kd.int .i64).C W e.A e.l.length e.l}
instance (w : World) (g : Nat) : Inhabited (RT w g) := ⟨⟨⟨none, 0, [], 0⟩, Nat.le_refl _, Nat.zero_le _, fun W _ => C_empty _ W none⟩⟩
theorem rt_rows (w : World) (g : Nat) : ∀ (es : List TermV), (∀ e ∈ es, e.l.length ≤ e.c ∧ e.l.length ≤ 1000000 ∧ ∀ W, w.grownBy W (some g) → (Kd.int .i64).C W e.A e.l.length e.l) → ∃ l : List (RT w g), l.map (fun x : RT w g => x.1) = es
 | [], _ => ⟨[], rfl⟩
 | e :: es, h => by
  obtain ⟨l, hl⟩ := rt_rows w g es (fun a ha => h a (List.mem_cons_of_mem _ ha))
  exact ⟨⟨e, h e List.mem_cons_self⟩ :: l, congrArg (e :: ·) hl⟩
theorem sortT_any (base : Nat) (u : Value) (es : List TermV) (w : World) (h : TRow w base u es) (hn : es.length ≤ 1000000) (hl : ∀ e ∈ es, e.l.length ≤ 1000000) (hw : ∀ e ∈ es, e.l = [] → e.l.length ≤ e.c) :
 Calls Try.prog 83 #[u, .func (.func 84) #[] #[]] w fun e w' => e = .returned (.tuple #[]) ∧
  ∃ es', es'.Perm es ∧ (es'.map termOf).Pairwise (fun a b => wlt b.f0 a.f0 = false) ∧ TRow w' base u es' ∧ w.grownBy w' u.ownBlock := by
 obtain ⟨A, c, rfl⟩ := h.slice
 by_cases h0 : es = []
 · subst h0
   have hc := AnyF.slices_SortFunc_none laysSortT A c (.func (.func 84) #[] #[]) w
   change Calls Try.prog 83 _ _ _ at hc
   refine hc.mono ?_
   rintro e w' ⟨rfl, rfl⟩
   exact ⟨rfl, [], List.Perm.refl _, by simp, h, World.grownBy.refl _ _⟩
 · have hpos : 0 < es.length := List.length_pos_iff.2 h0
   obtain ⟨g, cap, hv, hbase, cur, hblk⟩ : ∃ g cap, (Value.slice A es.length c) = .slice (some ⟨g, 0, none⟩) es.length cap ∧ base ≤ g ∧ ∃ cur, w.heap[g]? = some (.cells cur 65 (0, 0)) := by
    rcases h.row.2 with ⟨_, hz⟩ | ⟨g, cap, cur, he, hb, hh, _⟩
    · omega
    · exact ⟨g, cap, he, hb, cur, hh⟩
   rw [hv] at h ⊢
   have hown : (Value.slice (some ⟨g, 0, none⟩) es.length cap).ownBlock = some g := rfl
   have hread : ∀ e ∈ es, e.l.length ≤ e.c ∧ e.l.length ≤ 1000000 ∧ ∀ W, w.grownBy W (some g) → (Kd.int .i64).C W e.A e.l.length e.l := fun e he => by
    by_cases hle : e.l = []
    · refine ⟨hw e he hle, hl e he, fun W _ => ?_⟩
      rw [hle]; exact C_empty _ _ _
    · have hR := h.words e he hle
      refine ⟨(Kd.R_reads' hR).2.1, hl e he, fun W hg => ?_⟩
      exact (Kd.R_reads' (Kd.R_over' (v := .slice (some ⟨g, 0, none⟩) es.length cap) (e' := 65) hR (fun k hk => by cases hk; exact ⟨cur, hblk⟩) (by decide) hg)).2.2
   obtain ⟨dl, hdl0⟩ := rt_rows w g es hread
   obtain ⟨d, hds, hdl⟩ : ∃ d : Array (RT w g), d.size = es.length ∧ d.toList.map (fun x : RT w g => x.1) = es := ⟨dl.toArray, by rw [← hdl0]; simp, hdl0⟩
   have hH : HoldsK (fun x : RT w g => encT x.1) 2 w g 0 d := holdsK_own (fun x : RT w g => x.1) d (by rw [hds, hdl]; exact h.row)
   have hcmp : CmpLays Try.prog 84 #[] (fun x : RT w g => encT x.1) 2 (fun x y => wordCmp x.1.l y.1.l) g 0 d.size w := fun m os dk hdk x y => by
    have hgr : w.grownBy (sortWorldK (fun x : RT w g => encT x.1) 2 w g 0 m dk os) (some g) := grownBy_sortedK dk
    exact cmpT_any x.1 y.1 _ (x.2.2.2 _ hgr) x.2.1 x.2.2.1 (y.2.2.2 _ hgr) y.2.1 y.2.2.1
   have hc := AnyQ.slices_SortFunc laysSortT 2 Try.isAgg65 Try.sizeOf65 (fun x : RT w g => encT x.1) (fun _ => rfl) (fun x v hv => by simp [encT] at hv; rcases hv with rfl | rfl <;> rfl) (fun x y => wordCmp x.1.l y.1.l) (wordCmp_swo (fun x : RT w g => x.1.l))
    84 #[] g 0 cap d w (enters_of Try.func84 (by kernel_rfl) rfl) hcmp hH (Array.getElem?_eq_some_iff.1 hblk).1 (by rw [hds]; omega)
   change Calls Try.prog 83 _ _ _ at hc
   rw [hds] at hc
   refine hc.mono ?_
   rintro e w' ⟨rfl, d', n, os, hp, hs, rfl⟩
   have hd's : d'.size = d.size := hp.1
   have hsz : d'.size = es.length := hd's.trans hds
   have hperm : (d'.toList.map (fun x : RT w g => x.1)).Perm es := by
    have h3 := hp.2.2
    rw [show (d'.extract 0 es.length) = d' from by rw [← hsz]; simp, show (d.extract 0 es.length) = d from by rw [← hds]; simp] at h3
    have h4 := h3.map (fun x : RT w g => x.1)
    rwa [hdl] at h4
   have hg := grownBy_sortedK (enc := fun x : RT w g => encT x.1) (k := 2) (w := w) (g := g) (n := n) (os := os) d'
   refine ⟨rfl, d'.toList.map (fun x : RT w g => x.1), hperm, ?_, ⟨?_, fun e he hle => ?_, ?_⟩, hg⟩
   · rw [List.map_map, List.pairwise_map, List.pairwise_iff_getElem]
     intro i j h1 h2 hij
     have := hs i j (Nat.zero_le _) hij (by rw [← hsz]; simpa using h2)
     rw [getElem!_pos d' i (by simpa using h1), getElem!_pos d' j (by simpa using h2)] at this
     exact this
   · have := own_sorted (fun x : RT w g => x.1) d d' n os hd's (by rw [hds, hdl]; exact h.row)
     rw [hds] at this
     have e : (d'.toList.map (fun x : RT w g => x.1)).length = es.length := by simp [hsz]
     rw [e]
     exact this
   · exact Kd.R_over' (v := .slice (some ⟨g, 0, none⟩) es.length cap) (e' := 65) (h.words e (hperm.mem_iff.1 he) hle) (fun k hk => by cases hk; exact ⟨cur, hblk⟩) (by decide) hg
   · exact (hperm.pairwise_iff (fun {a b} hab k h1 h2 => hab k h2 h1)).2 h.apart
end Go.Proofs.Ytgcgeoglhebonaa.P
end
