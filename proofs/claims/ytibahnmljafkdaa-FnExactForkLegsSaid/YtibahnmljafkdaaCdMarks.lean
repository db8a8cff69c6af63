/- The laws' marks: a row of whole numbers is filled with numbers one behind the other, and is found so filled. -/
import Derived.Test.YtibahnmljafkdaaCdPureLaws
import Derived.Test.YtibahnmljafkdaaCdBase
import Derived.Test.YtibahnmljafkdaaCdPx7
import Derived.Test.YtibahnmljafkdaaCdPx8
namespace Go.Proofs.Ytibahnmljafkdaa.P
open Go.RowKit Go.Maps Go.Proofs.YtibahnmljafkdaaW.PrintWords Go.Proofs.YtibahnmljafkdaaW.PrintLast Go.Proofs.YtibahnmljafkdaaW.PrintMore
set_option linter.unusedVariables false
set_option linter.unusedSimpArgs false
def marksL (a : Int) : Nat → List Int
 | 0 => []
 | n + 1 => a :: marksL (a + 1) n
theorem marksL_length : ∀ (n : Nat) (a : Int), (marksL a n).length = n
 | 0, _ => rfl
 | n + 1, a => by simp [marksL, marksL_length n]
theorem marksL_snoc : ∀ (n : Nat) (a : Int), marksL a (n + 1) = marksL a n ++ [a + n]
 | 0, a => by simp [marksL]
 | n + 1, a => by
  have := marksL_snoc n (a + 1)
  rw [marksL, this]
  simp [marksL]; omega
theorem marksL_rd : ∀ (n : Nat) (a : Int) (i : Nat), i < n → rd (marksL a n) (i : Int) = a + i
 | 0, a, i, h => by omega
 | n + 1, a, 0, h => by simp [marksL, rd]
 | n + 1, a, i + 1, h => by
  have := marksL_rd n (a + 1) i (by omega)
  simp only [rd, Int.toNat_natCast, marksL, List.getD_cons_succ] at this ⊢
  rw [this]; omega
theorem wrS (a : Int) (h0 : 0 ≤ a) (h1 : a ≤ 1000000000000000) : wrap64 (a + 1) = a + 1 := by unfold wrap64; omega
theorem mark_l0 (l : List Int) (a : Int) (h0 : 0 ≤ a) (hb : a + l.length ≤ 1000000000000000) : ∀ (d i : Nat), i + d = l.length → Ev (fun k => laws_markInt64S.l0 k (marksL a i ++ l.drop i) (a + i) (i : Int)) (a + l.length, marksL a l.length) := by
 intro d
 induction d with
 | zero =>
  intro i hi
  refine Ev.step (fun k => by rw [laws_markInt64S.l0]) ?_
  have hl : (marksL a i ++ l.drop i).length = l.length := by simp [marksL_length]; omega
  simp only [hl, if_neg (show ¬ ((i : Int) < (l.length : Int)) by omega)]
  refine ev_val ?_
  rw [List.drop_of_length_le (by omega), List.append_nil]
  obtain rfl : i = l.length := by omega
  rfl
 | succ d ih =>
  intro i hi
  refine Ev.step (fun k => by rw [laws_markInt64S.l0]) ?_
  have hl : (marksL a i ++ l.drop i).length = l.length := by simp [marksL_length]; omega
  simp only [hl, if_pos (show ((i : Int) < (l.length : Int)) by omega), if_pos (show (0 : Int) ≤ (i : Int) by omega), Int.toNat_natCast]
  have e1 : (marksL a i ++ l.drop i).set i (a + i) = marksL a (i + 1) ++ l.drop (i + 1) := by
   rw [List.set_append_right _ _ (by rw [marksL_length]; exact Nat.le_refl _), marksL_length, Nat.sub_self, marksL_snoc, List.append_assoc]
   congr 1
   rw [List.drop_eq_getElem_cons (show i < l.length by omega)]
   rfl
  rw [e1, wrS (a + i) (by omega) (by omega), wr1 i l.length (by omega) (by omega), show a + (i : Int) + 1 = a + ((i + 1 : Nat) : Int) by omega]
  exact ih (i + 1) (by omega)
theorem ev_mark (l : List Int) (a : Int) (h0 : 0 ≤ a) (hb : a + l.length ≤ 1000000000000000) : Ev (fun k => laws_markInt64S.f k l a) (a + l.length, marksL a l.length) := by
 have := mark_l0 l a h0 hb l.length 0 (by omega)
 simpa [laws_markInt64S.f, marksL] using this
theorem held_l0 (n : Nat) (a : Int) (h0 : 0 ≤ a) (hb : a + n ≤ 1000000000000000) : ∀ (d i : Nat), i + d = n → Ev (fun k => laws_heldInt64S.l0 k (marksL a n) (a + i) (i : Int)) (a + n) := by
 intro d
 induction d with
 | zero =>
  intro i hi
  refine Ev.step (fun k => by rw [laws_heldInt64S.l0]) ?_
  simp only [marksL_length, if_neg (show ¬ ((i : Int) < (n : Int)) by omega)]
  refine ev_val ?_
  obtain rfl : i = n := by omega
  rfl
 | succ d ih =>
  intro i hi
  refine Ev.step (fun k => by rw [laws_heldInt64S.l0]) ?_
  simp only [marksL_length, if_pos (show ((i : Int) < (n : Int)) by omega), if_pos (show (0 : Int) ≤ (i : Int) by omega), marksL_rd n a i (by omega), if_true]
  rw [wrS (a + i) (by omega) (by omega), wr1 i n (by omega) (by omega), show a + (i : Int) + 1 = a + ((i + 1 : Nat) : Int) by omega]
  exact ih (i + 1) (by omega)
theorem ev_held (n : Nat) (a : Int) (h0 : 0 ≤ a) (hb : a + n ≤ 1000000000000000) : Ev (fun k => laws_heldInt64S.f k (marksL a n) a) (a + n) := by
 have := held_l0 n a h0 hb n 0 (by omega)
 simpa [laws_heldInt64S.f] using this
theorem markI_any (v : Value) (l : List Int) (a : Int) (w0 w : World) (ok : Nat → Prop) (hB : Below w0.heap.size w0 w) (h : Kd.R (Kd.int .i64) 2 w w0.heap.size ok v l) (h0 : 0 ≤ a) (hb : a + l.length ≤ 1000000000000000) :
 Calls Try.prog 46 #[v, .int .i64 a] w fun e w' => e = .returned (.int .i64 (a + l.length)) ∧ Kd.R (Kd.int .i64) 2 w' w0.heap.size ok v (marksL a l.length) ∧ Below w0.heap.size w0 w' ∧ Kept w w' ok := by
 obtain ⟨k, hk⟩ := (ev_mark l a h0 hb).rounds
 refine (laws_markInt64S.calls k ok v l a _ _ w0 w hB h hk).mono ?_
 rintro e w' ⟨rfl, hr, hb, hk⟩
 exact ⟨rfl, Kd.R_flat (fun h => h) hr (fun k hk _ => h.1 k hk), hb, hk⟩
end Go.Proofs.Ytibahnmljafkdaa.P
