/- Part of the claim. -/
import Derived.Test.YtgcgeoglhebonaaCeM1
set_option maxRecDepth 100000
set_option maxHeartbeats 8000000
section
namespace Go.Proofs.Ytgcgeoglhebonaa.P
open Go.RowKit Go.Proofs.YtgcgeoglhebonaaW.PrintWords Go.Proofs.YtgcgeoglhebonaaW.PrintLast Go.Proofs.YtgcgeoglhebonaaW.PrintMore
attribute [local go_sem] max2_int min2_int max_two min_two max_three min_three max_four min_four   -- for this text's walks alone
set_option linter.unusedVariables false
set_option linter.unusedSimpArgs false
def spec_l03Like.j0 : Nat → Bool → Int → List (S65) → Int → List (S65) → Option (Int)
 | 0, _, _, _, _, _ => none
 | k + 1, x5, x147000, x147001, x148000, x148001 => if x5 = true then (some 1) else (if x147000 = x148000 then (some 0) else (some 2))
def spec_l03Like.f (k : Nat) (a0_0 : Int) (l0_1 : List (S65)) (a1_0 : Int) (l1_1 : List (S65)) : Option (Int) := (spec_l03Is.f k a0_0 l0_1).bind fun t148 => (if t148 = true then ((spec_l03Is.f k a1_0 l1_1).bind fun t149 => (spec_l03Like.j0 k (!t149) a0_0 l0_1 a1_0 l1_1)) else (spec_l03Like.j0 k true a0_0 l0_1 a1_0 l1_1))
theorem spec_l03Like.calls (k : Nat) (a0_0 : Int) (A0_1 : Option Addr) (c0_1 : Nat) (l0_1 : List (S65)) (a1_0 : Int) (A1_1 : Option Addr) (c1_1 : Nat) (l1_1 : List (S65)) (r : Int) (w : World) (hr0_1 : Kd.C k65 w A0_1 l0_1.length l0_1) (hc0_1 : l0_1.length ≤ c0_1) (hr1_1 : Kd.C k65 w A1_1 l1_1.length l1_1) (hc1_1 : l1_1.length ≤ c1_1) (h : spec_l03Like.f k a0_0 l0_1 a1_0 l1_1 = some r) :
 Calls Try.prog 18 #[.agg #[.int .i64 a0_0, .slice A0_1 l0_1.length c0_1], .agg #[.int .i64 a1_0, .slice A1_1 l1_1.length c1_1]] w fun e w' => e = .returned (.int .i64 r) ∧ Below w.heap.size w w' := by
 have hu28 := Try.underlying28
 have HR0_1 := am hr0_1
 have HC0_1 := am hc0_1
 clear hr0_1 hc0_1
 have HR1_1 := am hr1_1
 have HC1_1 := am hc1_1
 clear hr1_1 hc1_1
 have HB := am (Below.refl w.heap.size w)
 have H : ((spec_l03Is.f k a0_0 l0_1).bind fun t148 => (if t148 = true then ((spec_l03Is.f k a1_0 l1_1).bind fun t149 => (spec_l03Like.j0 k (!t149) a0_0 l0_1 a1_0 l1_1)) else (spec_l03Like.j0 k true a0_0 l0_1 a1_0 l1_1))) = some r := h
 clear h
 have HC3 := am H
 clear H
 go_enter Try.func18, Try.ntmps18
 go_upto_region 1 with (first | ((with_reducible refine gate_dst (N := 2) rfl ?_); refine box_event ?hg (N := 2) ?hd (cs := #[.int .i64 a0_0, .slice A0_1 l0_1.length c0_1]) (t := 28) ?hr ?_; (case hd => rfl); (case hg => rfl); (case hr => (go_simp; done)); intro gb146 hg w4 hbox hb; have n0_ := am (below_step (by repeat ((with_reducible exact HB.out))) hb); have n1_ := am (hbox); have n2_ := am ((by rw [hg]; exact (below_size (by repeat ((with_reducible exact HB.out)))) : w.heap.size ≤ gb146)); have n3_ := am ((by rw [hg]; exact (below_size (by repeat ((with_reducible exact HB.out)))) : w.heap.size ≤ gb146)); clear HB; have HB := n0_; have BK146 := n1_; have GW146 := n2_; have GE146 := n3_; clear n0_ n1_ n2_ n3_; clear hb hbox hg) | ((with_reducible refine gate_dst (N := 3) rfl ?_); refine box_event ?hg (N := 3) ?hd (cs := #[.int .i64 a1_0, .slice A1_1 l1_1.length c1_1]) (t := 28) ?hr ?_; (case hd => rfl); (case hg => rfl); (case hr => (go_simp; done)); intro gb147 hg w5 hbox hb; have n0_ := am (blk_below (g := gb146) (o := .cells #[.int .i64 a0_0, .slice A0_1 l0_1.length c0_1] 28 (0, 0)) (by exact BK146.out) hb); have n1_ := am (below_step (by repeat ((with_reducible exact HB.out))) hb); have n2_ := am (hbox); have n3_ := am ((by rw [hg]; exact (below_size (by repeat ((with_reducible exact HB.out)))) : w.heap.size ≤ gb147)); have n4_ := am ((by rw [hg]; exact (below_size (by repeat ((with_reducible exact HB.out)))) : w.heap.size ≤ gb147)); have n5_ := am ((by rw [hg]; exact Nat.ne_of_lt (blk_lt (g := gb146) (o := .cells #[.int .i64 a0_0, .slice A0_1 l0_1.length c0_1] 28 (0, 0)) (by exact BK146.out)) : gb146 ≠ gb147)); have n6_ := am ((by rw [hg]; exact Nat.ne_of_gt (blk_lt (g := gb146) (o := .cells #[.int .i64 a0_0, .slice A0_1 l0_1.length c0_1] 28 (0, 0)) (by exact BK146.out)) : gb147 ≠ gb146)); clear BK146; clear HB; have BK146 := n0_; have HB := n1_; have BK147 := n2_; have GW147 := n3_; have GE147 := n4_; have NB146_147 := n5_; have NB147_146 := n6_; clear n0_ n1_ n2_ n3_ n4_ n5_ n6_; clear hb hbox hg))
 (try simp only [Act.put, q1, q2, q3])
 go_cut [5] (fun v5 wc => ∃ (kq : Nat) (x5_2 : Bool), v5 = .bool x5_2 ∧ Aside0 (spec_l03Like.j0 kq x5_2 a0_0 l0_1 a1_0 l1_1 = some r) ∧ Aside0 (kq ≤ k) ∧ Aside0 (wc.heap[gb146]? = some (.cells #[.int .i64 a0_0, (.slice A0_1 l0_1.length c0_1)] 28 (0, 0))) ∧ Aside0 (wc.heap[gb147]? = some (.cells #[.int .i64 a1_0, (.slice A1_1 l1_1.length c1_1)] 28 (0, 0))) ∧ Aside0 (Below w.heap.size w wc))
 case first =>
  have H := HC3.out
  clear HC3
  replace H := Option.bind_eq_some_iff.mp H
  obtain ⟨t148, A60, H⟩ := H
  replace H : (if t148 = true then ((spec_l03Is.f k a1_0 l1_1).bind fun t149 => (spec_l03Like.j0 k (!t149) a0_0 l0_1 a1_0 l1_1)) else (spec_l03Like.j0 k true a0_0 l0_1 a1_0 l1_1)) = some r := H
  have A6 := am A60
  clear A60
  by_cases c7 : t148 = true
  · subst c7
    have H1 : ((spec_l03Is.f k a1_0 l1_1).bind fun t149 => (spec_l03Like.j0 k (!t149) a0_0 l0_1 a1_0 l1_1)) = some r := by rw [if_pos rfl] at H; exact H
    clear H
    have H := H1
    clear H1
    replace H := Option.bind_eq_some_iff.mp H
    obtain ⟨t149, A80, H⟩ := H
    replace H : (spec_l03Like.j0 k (!t149) a0_0 l0_1 a1_0 l1_1) = some r := H
    have A8 := am A80
    clear A80
    have H' := am H
    clear H
    have hnb9 := NB146_147.out
    have hnc9 := NB147_146.out
    have hcz10_0 : w5.cell? ⟨gb146, 0, none⟩ = some (.int .i64 a0_0) := (blk_cell BK146.out 0).trans rfl
    have hcz10_1 : w5.cell? ⟨gb146, 1, none⟩ = some (.slice A0_1 l0_1.length c0_1) := (blk_cell BK146.out 1).trans rfl
    have hfz10_0 := blk_frozen BK146.out 0
    have hfz10_1 := blk_frozen BK146.out 1
    go_wp2_with (first | ((with_reducible refine gate_callee (f := 48) rfl ?_); refine goesL_ (some 7) rfl rfl Try.func48 (by kernel_rfl) rfl #[.agg #[.int .i64 a0_0, .slice A0_1 l0_1.length c0_1]] rfl (by (try simp only [List.map_toArray, List.map_cons, List.map_nil]); rfl) ?_; (with_reducible refine (spec_l03Is.calls k a0_0 _ _ l0_1 true _ ?side1 ?side2 A6.out).mono ?_); (case side1 => repeat (exact (Kd.C_below HR0_1.out HB.out))); (case side2 => exact HC0_1.out); rintro e w11 ⟨rfl, hb⟩; refine ⟨_, rfl, ?_⟩; have n0_ := am (blk_below (g := gb146) (o := .cells #[.int .i64 a0_0, .slice A0_1 l0_1.length c0_1] 28 (0, 0)) (by exact BK146.out) hb); have n1_ := am (blk_below (g := gb147) (o := .cells #[.int .i64 a1_0, .slice A1_1 l1_1.length c1_1] 28 (0, 0)) (by exact BK147.out) hb); have n2_ := am (below_step (by repeat ((with_reducible exact HB.out))) hb); clear BK146; clear BK147; clear HB; have BK146 := n0_; have BK147 := n1_; have HB := n2_; clear n0_ n1_ n2_; (try clear hb); (try clear hb2); (try clear hk); (try clear hi); have hcz12_0 : w11.cell? ⟨gb147, 0, none⟩ = some (.int .i64 a1_0) := (blk_cell BK147.out 0).trans rfl; have hcz12_1 : w11.cell? ⟨gb147, 1, none⟩ = some (.slice A1_1 l1_1.length c1_1) := (blk_cell BK147.out 1).trans rfl; have hfz12_0 := blk_frozen BK147.out 0; have hfz12_1 := blk_frozen BK147.out 1) | (go_at_call 48; (with_reducible refine (spec_l03Is.calls k a1_0 _ _ l1_1 t149 _ ?side1 ?side2 A8.out).mono ?_); (case side1 => repeat (exact (Kd.C_below HR1_1.out HB.out))); (case side2 => exact HC1_1.out); rintro e w13 ⟨rfl, hb⟩; have n0_ := am (blk_below (g := gb146) (o := .cells #[.int .i64 a0_0, .slice A0_1 l0_1.length c0_1] 28 (0, 0)) (by exact BK146.out) hb); have n1_ := am (blk_below (g := gb147) (o := .cells #[.int .i64 a1_0, .slice A1_1 l1_1.length c1_1] 28 (0, 0)) (by exact BK147.out) hb); have n2_ := am (below_step (by repeat ((with_reducible exact HB.out))) hb); clear BK146; clear BK147; clear HB; have BK146 := n0_; have BK147 := n1_; have HB := n2_; clear n0_ n1_ n2_; (try clear hb); (try clear hb2); (try clear hk); (try clear hi)))
    go_meet
    case rel => exact ⟨_, (!t149), (by rfl), H', ⟨by omega⟩, ⟨by (with_reducible repeat (refine blk_drew ?_)); exact BK146.out⟩, ⟨by (with_reducible repeat (refine blk_drew ?_)); exact BK147.out⟩, ⟨by repeat ((with_reducible exact HB.out))⟩⟩
  · replace c7 := Bool.eq_false_iff.mpr c7
    subst c7
    have H1 : (spec_l03Like.j0 k true a0_0 l0_1 a1_0 l1_1) = some r := by rw [if_neg (show ¬ (false = true) by decide)] at H; exact H
    clear H
    have H := H1
    clear H1
    have H' := am H
    clear H
    have hnb14 := NB146_147.out
    have hnc14 := NB147_146.out
    have hcz15_0 : w5.cell? ⟨gb146, 0, none⟩ = some (.int .i64 a0_0) := (blk_cell BK146.out 0).trans rfl
    have hcz15_1 : w5.cell? ⟨gb146, 1, none⟩ = some (.slice A0_1 l0_1.length c0_1) := (blk_cell BK146.out 1).trans rfl
    have hfz15_0 := blk_frozen BK146.out 0
    have hfz15_1 := blk_frozen BK146.out 1
    go_wp2_with (((with_reducible refine gate_callee (f := 48) rfl ?_); refine goesL_ (some 7) rfl rfl Try.func48 (by kernel_rfl) rfl #[.agg #[.int .i64 a0_0, .slice A0_1 l0_1.length c0_1]] rfl (by (try simp only [List.map_toArray, List.map_cons, List.map_nil]); rfl) ?_; (with_reducible refine (spec_l03Is.calls k a0_0 _ _ l0_1 false _ ?side1 ?side2 A6.out).mono ?_); (case side1 => repeat (exact (Kd.C_below HR0_1.out HB.out))); (case side2 => exact HC0_1.out); rintro e w16 ⟨rfl, hb⟩; refine ⟨_, rfl, ?_⟩; have n0_ := am (blk_below (g := gb146) (o := .cells #[.int .i64 a0_0, .slice A0_1 l0_1.length c0_1] 28 (0, 0)) (by exact BK146.out) hb); have n1_ := am (blk_below (g := gb147) (o := .cells #[.int .i64 a1_0, .slice A1_1 l1_1.length c1_1] 28 (0, 0)) (by exact BK147.out) hb); have n2_ := am (below_step (by repeat ((with_reducible exact HB.out))) hb); clear BK146; clear BK147; clear HB; have BK146 := n0_; have BK147 := n1_; have HB := n2_; clear n0_ n1_ n2_; (try clear hb); (try clear hb2); (try clear hk); (try clear hi)))
    go_meet
    case rel => exact ⟨_, (true), (by rfl), H', ⟨by omega⟩, ⟨by (with_reducible repeat (refine blk_drew ?_)); exact BK146.out⟩, ⟨by (with_reducible repeat (refine blk_drew ?_)); exact BK147.out⟩, ⟨by repeat ((with_reducible exact HB.out))⟩⟩
 case rest =>
  clear HC3
  try clear c1
  try clear p2
  try clear c4
  try clear c7
  try clear c9
  try clear c14
  try clear hcz10_0
  try clear hcz10_1
  try clear hcz12_0
  try clear hcz12_1
  try clear hcz15_0
  try clear hcz15_1
  try clear hfz10_0
  try clear hfz10_1
  try clear hfz12_0
  try clear hfz12_1
  try clear hfz15_0
  try clear hfz15_1
  obtain ⟨kq, x5_2, rfl, HA, HJ2, BK146, BK147, HB⟩ := hcut
  cases kq with
  | zero => exact absurd HA.out (by simp [spec_l03Like.j0])
  | succ kj2 =>
   have H := HA.out
   clear HA
   simp only [spec_l03Like.j0] at H
   by_cases c17 : x5_2 = true
   · subst c17
     have H1 : (some 1) = some r := by rw [if_pos rfl] at H; exact H
     clear H
     have H := H1
     clear H1
     obtain rfl := Option.some.inj H
     go_wp2
     go_ret
     exact ⟨by rfl, by repeat ((with_reducible exact HB.out))⟩
   · replace c17 := Bool.eq_false_iff.mpr c17
     subst c17
     have H1 : (if a0_0 = a1_0 then (some 0) else (some 2)) = some r := by rw [if_neg (show ¬ (false = true) by decide)] at H; exact H
     clear H
     have H := H1
     clear H1
     by_cases c18 : a0_0 = a1_0
     · rw [if_pos c18] at H
       have c18b0 : (a0_0 == a1_0) = true := beq_iff_eq.mpr c18
       have c18b1 : (a0_0 != a1_0) = false := bne_eq_false_iff_eq.mpr c18
       clear c18
       obtain rfl := Option.some.inj H
       have hnb19 := NB146_147.out
       have hnc19 := NB147_146.out
       have hcz20_0 : wc.cell? ⟨gb146, 0, none⟩ = some (.int .i64 a0_0) := (blk_cell BK146.out 0).trans rfl
       have hcz20_1 : wc.cell? ⟨gb146, 1, none⟩ = some (.slice A0_1 l0_1.length c0_1) := (blk_cell BK146.out 1).trans rfl
       have hfz20_0 := blk_frozen BK146.out 0
       have hfz20_1 := blk_frozen BK146.out 1
       have hcz21_0 : wc.cell? ⟨gb147, 0, none⟩ = some (.int .i64 a1_0) := (blk_cell BK147.out 0).trans rfl
       have hcz21_1 : wc.cell? ⟨gb147, 1, none⟩ = some (.slice A1_1 l1_1.length c1_1) := (blk_cell BK147.out 1).trans rfl
       have hfz21_0 := blk_frozen BK147.out 0
       have hfz21_1 := blk_frozen BK147.out 1
       go_wp2
       go_ret
       exact ⟨by rfl, by repeat ((with_reducible exact HB.out))⟩
     · rw [if_neg c18] at H
       have c18b0 : (a0_0 == a1_0) = false := beq_eq_false_iff_ne.mpr c18
       have c18b1 : (a0_0 != a1_0) = true := bne_iff_ne.mpr c18
       obtain rfl := Option.some.inj H
       have hnb22 := NB146_147.out
       have hnc22 := NB147_146.out
       have hcz23_0 : wc.cell? ⟨gb146, 0, none⟩ = some (.int .i64 a0_0) := (blk_cell BK146.out 0).trans rfl
       have hcz23_1 : wc.cell? ⟨gb146, 1, none⟩ = some (.slice A0_1 l0_1.length c0_1) := (blk_cell BK146.out 1).trans rfl
       have hfz23_0 := blk_frozen BK146.out 0
       have hfz23_1 := blk_frozen BK146.out 1
       have hcz24_0 : wc.cell? ⟨gb147, 0, none⟩ = some (.int .i64 a1_0) := (blk_cell BK147.out 0).trans rfl
       have hcz24_1 : wc.cell? ⟨gb147, 1, none⟩ = some (.slice A1_1 l1_1.length c1_1) := (blk_cell BK147.out 1).trans rfl
       have hfz24_0 := blk_frozen BK147.out 0
       have hfz24_1 := blk_frozen BK147.out 1
       go_wp2
       go_ret
       exact ⟨by rfl, by repeat ((with_reducible exact HB.out))⟩
def spec_l03At.l0 : Nat → List Int → Int → Int → List (S65) → Option (Int)
 | 0, _, _, _, _ => none
 | k + 1, x1, x5, x151000, x151001 => if x5 < (x151001.length : Int) then (if 0 ≤ x5 then ((spec_l01Same.f k ((rd_T65 x151001 x5).f0) x1).bind fun t152 => (if t152 = true then (some ((rd_T65 x151001 x5).f1)) else (spec_l03At.l0 k x1 (wrap64 (x5 + 1)) x151000 x151001))) else (none)) else (some 0)
def spec_l03At.f (k : Nat) (a0_0 : Int) (l0_1 : List (S65)) (l1 : List Int) : Option (Int) := spec_l03At.l0 k l1 0 a0_0 l0_1
theorem spec_l03At.calls (k : Nat) (a0_0 : Int) (A0_1 : Option Addr) (c0_1 : Nat) (l0_1 : List (S65)) (A1 : Option Addr) (c1 : Nat) (l1 : List Int) (r : Int) (w : World) (hr0_1 : Kd.C k65 w A0_1 l0_1.length l0_1) (hc0_1 : l0_1.length ≤ c0_1) (hr1 : Kd.C (Kd.int .i64) w A1 l1.length l1) (hc1 : l1.length ≤ c1) (h : spec_l03At.f k a0_0 l0_1 l1 = some r) :
 Calls Try.prog 32 #[.agg #[.int .i64 a0_0, .slice A0_1 l0_1.length c0_1], .slice A1 l1.length c1] w fun e w' => e = .returned (.int .i64 r) ∧ Below w.heap.size w w' := by
 have hu28 := Try.underlying28
 have HR0_1 := am hr0_1
 have HC0_1 := am hc0_1
 clear hr0_1 hc0_1
 have HR1 := am hr1
 have HC1 := am hc1
 clear hr1 hc1
 have HB := am (Below.refl w.heap.size w)
 have H : (spec_l03At.l0 k l1 0 a0_0 l0_1) = some r := h
 clear h
 have H' := am H
 clear H
 go_enter Try.func32, Try.ntmps32
 go_wp2_with (((with_reducible refine gate_dst (N := 2) rfl ?_); refine box_event ?hg (N := 2) ?hd (cs := #[.int .i64 a0_0, .slice A0_1 l0_1.length c0_1]) (t := 28) ?hr ?_; (case hd => rfl); (case hg => rfl); (case hr => (go_simp; done)); intro gb150 hg w3 hbox hb; have n0_ := am (below_step (by repeat ((with_reducible exact HB.out))) hb); have n1_ := am (hbox); have n2_ := am ((by rw [hg]; exact (below_size (by repeat ((with_reducible exact HB.out)))) : w.heap.size ≤ gb150)); have n3_ := am ((by rw [hg]; exact (below_size (by repeat ((with_reducible exact HB.out)))) : w.heap.size ≤ gb150)); clear HB; have HB := n0_; have BK150 := n1_; have GW150 := n2_; have GE150 := n3_; clear n0_ n1_ n2_ n3_; clear hb hbox hg))
 go_loopg [5] k (fun kq v5 w' => ∃ (x5_1 : Int), v5 = .int .i64 x5_1 ∧ Aside0 (spec_l03At.l0 kq l1 x5_1 a0_0 l0_1 = some r) ∧ Aside0 (kq ≤ k) ∧ Aside0 (w'.heap[gb150]? = some (.cells #[.int .i64 a0_0, (.slice A0_1 l0_1.length c0_1)] 28 (0, 0))) ∧ Aside0 (Below w.heap.size w w'))
 case atStart => exact ⟨(0), (by rfl), H', ⟨Nat.le_refl _⟩, ⟨by (with_reducible repeat (refine blk_drew ?_)); exact BK150.out⟩, ⟨by repeat ((with_reducible exact HB.out))⟩⟩
 case round =>
  clear H'
  try clear c1
  try clear p2
  try clear c3
  obtain ⟨x5_1, rfl, HA, HK1, BK150, HB⟩ := hrel
  cases gk with
  | zero => exact absurd HA.out (by simp [spec_l03At.l0])
  | succ k1 =>
   have H := HA.out
   clear HA
   simp only [spec_l03At.l0] at H
   by_cases c4 : x5_1 < (l0_1.length : Int)
   · rw [if_pos c4] at H
     have c4b0 : decide (x5_1 < (l0_1.length : Int)) = true := decide_eq_true c4
     clear c4
     by_cases c5 : 0 ≤ x5_1
     · rw [if_pos c5] at H
       have c5b0 : decide (0 ≤ x5_1) = true := decide_eq_true c5
       clear c5
       replace H := Option.bind_eq_some_iff.mp H
       obtain ⟨t152, A60, H⟩ := H
       replace H : (if t152 = true then (some ((rd_T65 l0_1 x5_1).f1)) else (spec_l03At.l0 k1 l1 (wrap64 (x5_1 + 1)) a0_0 l0_1)) = some r := H
       have A6 := am A60
       clear A60
       by_cases c7 : t152 = true
       · subst c7
         have H1 : (some ((rd_T65 l0_1 x5_1).f1)) = some r := by rw [if_pos rfl] at H; exact H
         clear H
         have H := H1
         clear H1
         obtain rfl := Option.some.inj H
         have hcz8_0 : wr.cell? ⟨gb150, 0, none⟩ = some (.int .i64 a0_0) := (blk_cell BK150.out 0).trans rfl
         have hcz8_1 : wr.cell? ⟨gb150, 1, none⟩ = some (.slice A0_1 l0_1.length c0_1) := (blk_cell BK150.out 1).trans rfl
         have hfz8_0 := blk_frozen BK150.out 0
         have hfz8_1 := blk_frozen BK150.out 1
         have p151 : 0 ≤ (x5_1 : Int) := of_decide_eq_true (by (with_reducible assumption))
         have q151 : x5_1 < (l0_1.length : Int) := of_decide_eq_true (by (with_reducible assumption))
         obtain ⟨ad151, A151_0, c151_0, e151, hx151_0, hx151_1, hl151_0, hi151_0⟩ := at_T65 HR0_1.out x5_1 p151 q151
         cases e151
         replace hx151_0 := (HB.out.cell (World.block_lt_of_cell? w _ hx151_0)).trans hx151_0
         replace hx151_1 := (HB.out.cell (World.block_lt_of_cell? w _ hx151_1)).trans hx151_1
         have HR151_0 := am hi151_0
         have HC151_0 := am hl151_0
         clear hi151_0 hl151_0
         replace p151 := eq_true p151
         replace q151 := eq_true q151
         go_wp2_with (((with_reducible refine gate_callee (f := 68) rfl ?_); refine goesL_ (some 20) rfl rfl Try.func68 (by kernel_rfl) rfl #[.slice A151_0 ((rd_T65 l0_1 x5_1).f0).length c151_0, .slice A1 l1.length c1] rfl (by (try simp only [List.map_toArray, List.map_cons, List.map_nil]); rfl) ?_; (with_reducible refine (spec_l01Same.calls k1 _ _ ((rd_T65 l0_1 x5_1).f0) _ _ l1 true _ ?side1 ?side2 ?side3 ?side4 A6.out).mono ?_); (case side1 => repeat (exact (Kd.C_below HR151_0.out HB.out))); (case side2 => exact HC151_0.out); (case side3 => repeat (exact (Kd.C_below HR1.out HB.out))); (case side4 => exact HC1.out); rintro e w' ⟨rfl, ⟨nd, rfl⟩⟩; refine ⟨_, rfl, ?_⟩; have p153 : 0 ≤ (x5_1 : Int) := of_decide_eq_true (by (with_reducible assumption)); have q153 : x5_1 < (l0_1.length : Int) := of_decide_eq_true (by (with_reducible assumption)); obtain ⟨ad153, A153_0, c153_0, e153, hx153_0, hx153_1, hl153_0, hi153_0⟩ := at_T65 HR0_1.out x5_1 p153 q153; obtain rfl : ad151 = ad153 := (by injection e153); replace hx153_0 := (HB.out.cell (World.block_lt_of_cell? w _ hx153_0)).trans hx153_0; replace hx153_1 := (HB.out.cell (World.block_lt_of_cell? w _ hx153_1)).trans hx153_1; have HR153_0 := am hi153_0; have HC153_0 := am hl153_0; clear hi153_0 hl153_0; replace p153 := eq_true p153; replace q153 := eq_true q153; have ea_ := Option.some.inj (hx151_0.symm.trans hx153_0); injection ea_ with ea_ en_ ec_; subst ea_; subst ec_; clear en_))
         go_ret
         exact ⟨by rfl, by repeat ((with_reducible first | exact HB.out | apply pw_below_drewN))⟩
       · replace c7 := Bool.eq_false_iff.mpr c7
         subst c7
         have H1 : (spec_l03At.l0 k1 l1 (wrap64 (x5_1 + 1)) a0_0 l0_1) = some r := by rw [if_neg (show ¬ (false = true) by decide)] at H; exact H
         clear H
         have H := H1
         clear H1
         have H' := am H
         clear H
         have hcz9_0 : wr.cell? ⟨gb150, 0, none⟩ = some (.int .i64 a0_0) := (blk_cell BK150.out 0).trans rfl
         have hcz9_1 : wr.cell? ⟨gb150, 1, none⟩ = some (.slice A0_1 l0_1.length c0_1) := (blk_cell BK150.out 1).trans rfl
         have hfz9_0 := blk_frozen BK150.out 0
         have hfz9_1 := blk_frozen BK150.out 1
         have p151 : 0 ≤ (x5_1 : Int) := of_decide_eq_true (by (with_reducible assumption))
         have q151 : x5_1 < (l0_1.length : Int) := of_decide_eq_true (by (with_reducible assumption))
         obtain ⟨ad151, A151_0, c151_0, e151, hx151_0, hx151_1, hl151_0, hi151_0⟩ := at_T65 HR0_1.out x5_1 p151 q151
         cases e151
         replace hx151_0 := (HB.out.cell (World.block_lt_of_cell? w _ hx151_0)).trans hx151_0
         replace hx151_1 := (HB.out.cell (World.block_lt_of_cell? w _ hx151_1)).trans hx151_1
         have HR151_0 := am hi151_0
         have HC151_0 := am hl151_0
         clear hi151_0 hl151_0
         replace p151 := eq_true p151
         replace q151 := eq_true q151
         go_wp2_with (((with_reducible refine gate_callee (f := 68) rfl ?_); refine goesL_ (some 20) rfl rfl Try.func68 (by kernel_rfl) rfl #[.slice A151_0 ((rd_T65 l0_1 x5_1).f0).length c151_0, .slice A1 l1.length c1] rfl (by (try simp only [List.map_toArray, List.map_cons, List.map_nil]); rfl) ?_; (with_reducible refine (spec_l01Same.calls k1 _ _ ((rd_T65 l0_1 x5_1).f0) _ _ l1 false _ ?side1 ?side2 ?side3 ?side4 A6.out).mono ?_); (case side1 => repeat (exact (Kd.C_below HR151_0.out HB.out))); (case side2 => exact HC151_0.out); (case side3 => repeat (exact (Kd.C_below HR1.out HB.out))); (case side4 => exact HC1.out); rintro e w' ⟨rfl, ⟨nd, rfl⟩⟩; refine ⟨_, rfl, ?_⟩))
         go_roundg k1
         case measure => have := HK1.out; omega
         case rel => exact ⟨(wrap64 (x5_1 + 1)), (by rfl), H', ⟨by have := HK1.out; omega⟩, ⟨by (with_reducible repeat (refine blk_drewN ?_ _)); exact BK150.out⟩, ⟨by repeat ((with_reducible first | exact HB.out | apply pw_below_drewN))⟩⟩
     · rw [if_neg c5] at H
       exact absurd H (by simp)
   · rw [if_neg c4] at H
     have c4b0 : decide (x5_1 < (l0_1.length : Int)) = false := decide_eq_false c4
     clear c4
     obtain rfl := Option.some.inj H
     have hcz10_0 : wr.cell? ⟨gb150, 0, none⟩ = some (.int .i64 a0_0) := (blk_cell BK150.out 0).trans rfl
     have hcz10_1 : wr.cell? ⟨gb150, 1, none⟩ = some (.slice A0_1 l0_1.length c0_1) := (blk_cell BK150.out 1).trans rfl
     have hfz10_0 := blk_frozen BK150.out 0
     have hfz10_1 := blk_frozen BK150.out 1
     go_wp2
     go_ret
     exact ⟨by rfl, by repeat ((with_reducible exact HB.out))⟩
def spec_l03Empty.f (a0 : Int) : Option (Int × (List (S65))) := some (a0, (([] : List (S65))))
theorem spec_l03Empty.calls (a0 : Int) (r1 : Int) (r2 : List (S65)) (w : World) (h : spec_l03Empty.f a0 = some (r1, r2)) :
 Calls Try.prog 34 #[.int .i64 a0] w fun e w' => ∃ v1_ : Value, e = .returned (.agg #[.int .i64 r1, v1_]) ∧ Kd.S k65 65 w' w.heap.size (fun _ => True) v1_ r2 ∧ Below w.heap.size w w' := by
 have hu28 := Try.underlying28
 have HB := am (Below.refl w.heap.size w)
 have H : (some (a0, (([] : List (S65))))) = some (r1, r2) := h
 clear h
 obtain ⟨y155, hy155⟩ : ∃ y_ : List (S65), y_ = (([] : List (S65))) := ⟨_, rfl⟩
 replace H : (some (a0, y155)) = some (r1, r2) := by (rw [hy155]; with_reducible exact H)
 have Ny155 := am hy155
 clear hy155
 simp only [Option.some.injEq, Prod.mk.injEq] at H
 obtain ⟨rfl, rfl⟩ := H
 go_enter Try.func34, Try.ntmps34
 go_wp2_with (first | ((with_reducible refine gate_dst (N := 2) rfl ?_); refine box_event ?hg (N := 2) ?hd (cs := #[.int .i64 0, .slice none 0 0]) (t := 28) ?hr ?_; (case hd => rfl); (case hg => rfl); (case hr => (go_simp; done)); intro gb154 hg w2 hbox hb; have n0_ := am (below_step (by repeat ((with_reducible exact HB.out))) hb); have n1_ := am (hbox); have n2_ := am ((by rw [hg]; exact (below_size (by repeat ((with_reducible exact HB.out)))) : w.heap.size ≤ gb154)); have n3_ := am ((by rw [hg]; exact (below_size (by repeat ((with_reducible exact HB.out)))) : w.heap.size ≤ gb154)); clear HB; have HB := n0_; have BK154 := n1_; have GW154 := n2_; have GE154 := n3_; clear n0_ n1_ n2_ n3_; clear hb hbox hg) | ((with_reducible refine gate_dst (N := 4) rfl ?_); refine Kd.S_lit k65 _ 65 ?hg (N := 4) ?hd (xs := ([] : List (S65))) (inner := []) (ok := fun _ => True) (okp := fun _ => True) ?hr ?hp (fun _ hk => hk) trivial (Below.refl _ _) (Nat.le_refl _) (by simp) ?_; (case hd => rfl); (case hg => rfl); (case hr => (go_simp; done)); (case hp => exact (Reps.none _ _)); intro v156 w3 ho4 hb hg_ hnew_; clear hg_ hnew_; (rw [← Ny155.out] at ho4); have n0_ := am (Kd.S_lower ho4 (below_size (by repeat ((with_reducible exact HB.out))))); have n1_ := am (blk_below (g := gb154) (o := .cells #[.int .i64 0, .slice none 0 0] 28 (0, 0)) (by exact BK154.out) hb); have n2_ := am (below_step (by repeat ((with_reducible exact HB.out))) hb); clear BK154; clear HB; have HO157 := n0_; have BK154 := n1_; have HB := n2_; clear n0_ n1_ n2_; clear hb ho4; obtain ⟨Ao5, co5, eo5⟩ := Kd.S_slice HO157.out; subst eo5; have hcz6_0 : w3.cell? ⟨gb154, 0, none⟩ = some (.int .i64 0) := (blk_cell BK154.out 0).trans rfl; have hcz6_1 : w3.cell? ⟨gb154, 1, none⟩ = some (.slice none 0 0) := (blk_cell BK154.out 1).trans rfl; have hfz6_0 := blk_frozen BK154.out 0; have hfz6_1 := blk_frozen BK154.out 1))
 refine bodyPost_ret (results_cell_row rfl _ _ gb154 28 #[.int .i64 a0, .slice Ao5 y155.length co5] (0, 0) _ rfl (by (with_reducible repeat (refine blk_drew ?_)); refine blk_put (cs := #[.int .i64 a0, .slice none 0 0]) ?_ 1 _ rfl; (with_reducible repeat (refine blk_drew ?_)); refine blk_put (cs := #[.int .i64 0, .slice none 0 0]) ?_ 0 _ rfl; (with_reducible repeat (refine blk_drew ?_)); exact BK154.out) Try.underlying28 rfl (by kernel_rfl)) rfl ?_
 exact ⟨_, by rfl, by (with_reducible repeat (apply Kd.S_drew)); exact Kd.S_mono (Kd.S_far (p := ⟨gb154, 1, none⟩) (Kd.S_far (p := ⟨gb154, 0, none⟩) (Kd.S_types HO157.out BK154.out (by decide)) (fun _ hk => hk.2) (.int .i64 a0)) (fun _ hk => hk.2) (.slice Ao5 y155.length co5)) (fun _ hk => trivial), by repeat ((with_reducible first | exact HB.out | refine below_set ?_ GE154.out))⟩
def spec_l01Own.f (l0 : List Int) : Option (List Int) := (some (([] : List Int) : List Int)).bind fun y158 => (if y158.length + l0.length < 17592186044416 then (some (y158 ++ l0)) else (none))
theorem spec_l01Own.calls (A0 : Option Addr) (c0 : Nat) (l0 : List Int) (r : List Int) (w : World) (hr0 : Kd.C (Kd.int .i64) w A0 l0.length l0) (hc0 : l0.length ≤ c0) (h : spec_l01Own.f l0 = some r) :
 Calls Try.prog 50 #[.slice A0 l0.length c0] w fun e w' => ∃ v0_ : Value, e = .returned (v0_) ∧ Kd.R (Kd.int .i64) 2 w' w.heap.size (fun _ => True) v0_ r ∧ Below w.heap.size w w' := by
 have HR0 := am hr0
 have HC0 := am hc0
 clear hr0 hc0
 have HB := am (Below.refl w.heap.size w)
 have H : ((some (([] : List Int) : List Int)).bind fun y158 => (if y158.length + l0.length < 17592186044416 then (some (y158 ++ l0)) else (none))) = some r := h
 clear h
 obtain ⟨y158, hy158⟩ : ∃ y_ : List Int, y_ = (([] : List Int)) := ⟨_, rfl⟩
 replace H : (if y158.length + l0.length < 17592186044416 then (some (y158 ++ l0)) else (none)) = some r := by (have H2_ := (Option.bind_some _ _).symm.trans H; rw [hy158]; with_reducible exact H2_)
 have Ny158 := am hy158
 clear hy158
 by_cases c2 : y158.length + l0.length < 17592186044416
 · rw [if_pos c2] at H
   have LMc2 := am c2
   clear c2
   obtain ⟨y161, hy161⟩ : ∃ y_ : List Int, y_ = (y158 ++ l0) := ⟨_, rfl⟩
   replace H : (some y161) = some r := by (rw [hy161]; with_reducible exact H)
   have Ny161 := am hy161
   clear hy161
   obtain rfl := Option.some.inj H
   go_enter Try.func50, Try.ntmps50
   go_wp2_with (first | ((with_reducible refine gate_dst (N := 3) rfl ?_); refine Kd.R_lit (Kd.int .i64) _ 2 ?hg (N := 3) ?hd (xs := ([] : List Int)) (inner := []) (ok := fun _ => True) (okp := fun _ => True) ?hr ?hp (fun _ hk => hk) trivial (Below.refl _ _) (Nat.le_refl _) (by simp) ?_; (case hd => rfl); (case hg => rfl); (case hr => (go_simp; done)); (case hp => exact (Reps.none _ _)); intro v159 w3 ho4 hb hg_ hnew_; clear hg_ hnew_; (rw [← Ny158.out] at ho4); have n0_ := am (Kd.R_lower ho4 (below_size (by repeat ((with_reducible exact HB.out))))); have n1_ := am (below_step (by repeat ((with_reducible exact HB.out))) hb); clear HB; have HO160 := n0_; have HB := n1_; clear n0_ n1_; clear hb ho4) | ((with_reducible refine gate_builtin (b := .append) (xs := #[.tmp 3, .tmp 4]) rfl ?_); at_builtin; refine Kd.R_append_rows (Kd.int .i64) (w0 := w) w.heap.size rfl (.tmp 3) (.tmp 4) 50 2 (.int .i64 0) 8 rfl Try.underlying50 info2 rfl (by decide) (by omega) v159 y158 l0 _ _ _ (fun _ => True) (fun _ => False) rfl rfl ?aO ?aR (fun _ _ h => h) (fun _ h => h.elim) ?aF ?aB ?aS ?aL ?_; (case aR => repeat (exact (Kd.C_below HR0.out HB.out))); (case aB => exact (by repeat ((with_reducible exact HB.out)))); (case aF => exact (fun _ _ => trivial)); (case aO => exact (by (with_reducible repeat (apply Kd.R_drew)); exact HO160.out)); (case aS => exact (below_size (by repeat ((with_reducible exact HB.out))))); (case aL => have := LMc2.out; omega); intro v162 w5 ho hb hg hat; rw [← Ny161.out] at ho; have n0_ := am (hb); have n1_ := am (ho); clear HB; clear HO160; have HB := n0_; have HO163 := n1_; clear n0_ n1_; clear ho hb hg hat))
   go_ret
   exact ⟨_, by rfl, by (with_reducible repeat (apply Kd.R_drew)); exact HO163.out, by repeat ((with_reducible exact HB.out))⟩
 · rw [if_neg c2] at H
   exact absurd H (by simp)
def spec_l03Mod.f (a0 : Int) (a1 : Int) : Option (Int) := if a0 = 0 then (none) else (some (Int.tmod (wrap64 ((Int.tmod a1 a0) + a0)) a0))
theorem spec_l03Mod.calls (a0 : Int) (a1 : Int) (r : Int) (w : World) (h : spec_l03Mod.f a0 a1 = some r) :
 Calls Try.prog 69 #[.int .i64 a0, .int .i64 a1] w fun e w' => e = .returned (.int .i64 r) ∧ Drawn0 w w' := by
 have H : (if a0 = 0 then (none) else (some (Int.tmod (wrap64 ((Int.tmod a1 a0) + a0)) a0))) = some r := h
 clear h
 by_cases c3 : a0 = 0
 · rw [if_pos c3] at H
   exact absurd H (by simp)
 · rw [if_neg c3] at H
   have c3b0 : (a0 == 0) = false := beq_eq_false_iff_ne.mpr c3
   have c3b1 : (a0 != 0) = true := bne_iff_ne.mpr c3
   obtain rfl := Option.some.inj H
   go_enter Try.func69, Try.ntmps69
   go_wp2
   go_ret
   exact ⟨by rfl, by repeat (exact Drawn0.refl _)⟩
end Go.Proofs.Ytgcgeoglhebonaa.P
end
section
namespace Go.Proofs.Ytgcgeoglhebonaa.P
open Go.RowKit Go.Proofs.YtgcgeoglhebonaaW.PrintWords Go.Proofs.YtgcgeoglhebonaaW.PrintLast Go.Proofs.YtgcgeoglhebonaaW.PrintMore
attribute [local go_sem] max2_int min2_int max_two min_two max_three min_three max_four min_four   -- for this text's walks alone
set_option linter.unusedVariables false
set_option linter.unusedSimpArgs false
mutual
def spec_l03Put.l0 : Nat → List Int → Int → Bool → Int → Int → List (S65) → Int → List (S65) → Option (Int × (List (S65)))
 | 0, _, _, _, _, _, _, _, _ => none
 | k + 1, x1, x2, x8, x9, x165000, x165001, x171000, x171001 => if x9 < (x165001.length : Int) then (if 0 ≤ x9 then (if x8 = true then (spec_l03Put.j1 k x1 x2 x8 x9 false x165000 x165001 x171000 x171001 ((rd_T65 x165001 x9).f0) ((rd_T65 x165001 x9).f1)) else ((spec_l01Before.f k x1 ((rd_T65 x165001 x9).f0)).bind fun t181 => (spec_l03Put.j1 k x1 x2 x8 x9 t181 x165000 x165001 x171000 x171001 ((rd_T65 x165001 x9).f0) ((rd_T65 x165001 x9).f1)))) else (none)) else (if x8 = true then (some (x171000, x171001)) else ((spec_l01Own.f x1).bind fun t173 => (if x171001.length < 4398046511104 then (some (x171000, (x171001 ++ [(⟨t173, x2⟩ : S65)]))) else (none))))
def spec_l03Put.j1 : Nat → List Int → Int → Bool → Int → Bool → Int → List (S65) → Int → List (S65) → List Int → Int → Option (Int × (List (S65)))
 | 0, _, _, _, _, _, _, _, _, _, _, _ => none
 | k + 1, x1, x2, x8, x9, x43, x165000, x165001, x171000, x171001, x181000, x181001 => if x43 = true then ((spec_l01Own.f x1).bind fun t182 => (if x171001.length < 4398046511104 then (spec_l03Put.j2 k x1 x2 true x9 x165000 x165001 x171000 (x171001 ++ [(⟨t182, x2⟩ : S65)]) x181000 x181001) else (none))) else (spec_l03Put.j2 k x1 x2 x8 x9 x165000 x165001 x171000 x171001 x181000 x181001)
def spec_l03Put.j2 : Nat → List Int → Int → Bool → Int → Int → List (S65) → Int → List (S65) → List Int → Int → Option (Int × (List (S65)))
 | 0, _, _, _, _, _, _, _, _, _, _ => none
 | k + 1, x1, x2, x8, x9, x165000, x165001, x171000, x171001, x181000, x181001 => (spec_l01Same.f k x181000 x1).bind fun t188 => (if t188 = true then (spec_l03Put.l0 k x1 x2 x8 (wrap64 (x9 + 1)) x165000 x165001 x171000 x171001) else ((spec_l01Own.f x181000).bind fun t189 => (if x171001.length < 4398046511104 then (spec_l03Put.l0 k x1 x2 x8 (wrap64 (x9 + 1)) x165000 x165001 x171000 (x171001 ++ [(⟨t189, x181001⟩ : S65)])) else (none))))
end
def spec_l03Put.f (k : Nat) (a0_0 : Int) (l0_1 : List (S65)) (l1 : List Int) (a2 : Int) : Option (Int × (List (S65))) := (spec_l03Empty.f a0_0).bind fun bt166 => ((spec_l03At.f k a0_0 l0_1 l1).bind fun t171 => ((spec_l03Mod.f a0_0 (wrap64 (a2 + t171))).bind fun t172 => (spec_l03Put.l0 k l1 t172 (t172 == 0) 0 a0_0 l0_1 bt166.1 bt166.2)))
def spec_l03Put.T2 : Bool × List (List Nat × List Nat) := (true, [([], []), ([0], [0]), ([], []), ([], []), ([], []), ([3, 4], [3, 4]), ([2, 5], [2, 5]), ([1, 6, 5], [1, 6]), ([7, 7, 0, 1, 2, 3, 4, 5, 6, 7], [2, 7])])
def spec_l03Put.B2 : List Nat := [0, 1, 0, 0, 0, 24, 60, 127, 255]
theorem spec_l03Put.tab2 : rtab .any (opsOf Try.f33 2) = spec_l03Put.T2 := by kernel_rfl
theorem spec_l03Put.bits2 : waitsOk spec_l03Put.T2.2 spec_l03Put.B2 = true := by kernel_rfl
def spec_l03Put.T9 : Bool × List (List Nat × List Nat) := (true, [([], []), ([0], [0]), ([], []), ([2], [2]), ([], []), ([3, 4], [3, 4]), ([5], [5]), ([1, 6, 3], [1, 6]), ([0, 1, 2, 3, 4, 5, 6, 7], []), ([8, 7, 7, 0, 1, 2, 3, 4, 5, 6, 7], [7, 8])])
def spec_l03Put.B9 : List Nat := [0, 1, 0, 4, 0, 28, 60, 127, 255, 511]
theorem spec_l03Put.tab9 : rtab .any (opsOf Try.f33 9) = spec_l03Put.T9 := by kernel_rfl
theorem spec_l03Put.bits9 : waitsOk spec_l03Put.T9.2 spec_l03Put.B9 = true := by kernel_rfl
def spec_l03Put.T12 : Bool × List (List Nat × List Nat) := (true, [([], []), ([0], [0]), ([], []), ([2], [2]), ([3], [3]), ([], []), ([5], [5]), ([4, 6], [4, 6]), ([7], [7]), ([1, 8, 4], [1, 8]), ([0, 1, 2, 3, 4, 5, 6, 7, 8, 9], []), ([10, 9, 9, 0, 1, 2, 3, 4, 5, 6, 7, 8, 9], [9, 10])])
def spec_l03Put.B12 : List Nat := [0, 1, 0, 4, 12, 0, 32, 124, 252, 511, 1023, 2047]
theorem spec_l03Put.tab12 : rtab .any (opsOf Try.f33 12) = spec_l03Put.T12 := by kernel_rfl
theorem spec_l03Put.bits12 : waitsOk spec_l03Put.T12.2 spec_l03Put.B12 = true := by kernel_rfl
def spec_l03Put.T14 : Bool × List (List Nat × List Nat) := (true, [([], []), ([0], [0]), ([], []), ([2], [2]), ([], []), ([3, 4], [3, 4]), ([5], [5]), ([1, 6, 3], [1, 6]), ([0, 1, 2, 3, 4, 5, 6, 7], []), ([8, 7, 7, 0, 1, 2, 3, 4, 5, 6, 7], [7, 8])])
def spec_l03Put.B14 : List Nat := [0, 1, 0, 4, 0, 28, 60, 127, 255, 511]
theorem spec_l03Put.tab14 : rtab .any (opsOf Try.f33 14) = spec_l03Put.T14 := by kernel_rfl
theorem spec_l03Put.bits14 : waitsOk spec_l03Put.T14.2 spec_l03Put.B14 = true := by kernel_rfl
theorem spec_l03Put.calls (k : Nat) (a0_0 : Int) (A0_1 : Option Addr) (c0_1 : Nat) (l0_1 : List (S65)) (A1 : Option Addr) (c1 : Nat) (l1 : List Int) (a2 : Int) (r1 : Int) (r2 : List (S65)) (w : World) (hr0_1 : Kd.C k65 w A0_1 l0_1.length l0_1) (hc0_1 : l0_1.length ≤ c0_1) (hr1 : Kd.C (Kd.int .i64) w A1 l1.length l1) (hc1 : l1.length ≤ c1) (h : spec_l03Put.f k a0_0 l0_1 l1 a2 = some (r1, r2)) :
 Calls Try.prog 33 #[.agg #[.int .i64 a0_0, .slice A0_1 l0_1.length c0_1], .slice A1 l1.length c1, .int .i64 a2] w fun e w' => ∃ v1_ : Value, e = .returned (.agg #[.int .i64 r1, v1_]) ∧ Kd.S k65 65 w' w.heap.size (fun _ => True) v1_ r2 ∧ Below w.heap.size w w' := by
 have hu28 := Try.underlying28
 have hu65 := Try.underlying65
 have HR0_1 := am hr0_1
 have HC0_1 := am hc0_1
 clear hr0_1 hc0_1
 have HR1 := am hr1
 have HC1 := am hc1
 clear hr1 hc1
 have HB := am (Below.refl w.heap.size w)
 have H : ((spec_l03Empty.f a0_0).bind fun bt166 => ((spec_l03At.f k a0_0 l0_1 l1).bind fun t171 => ((spec_l03Mod.f a0_0 (wrap64 (a2 + t171))).bind fun t172 => (spec_l03Put.l0 k l1 t172 (t172 == 0) 0 a0_0 l0_1 bt166.1 bt166.2)))) = some (r1, r2) := h
 clear h
 replace H := Option.bind_eq_some_iff.mp H
 obtain ⟨⟨t166, t167⟩, A40, H⟩ := H
 replace H : ((spec_l03At.f k a0_0 l0_1 l1).bind fun t171 => ((spec_l03Mod.f a0_0 (wrap64 (a2 + t171))).bind fun t172 => (spec_l03Put.l0 k l1 t172 (t172 == 0) 0 a0_0 l0_1 t166 t167))) = some (r1, r2) := H
 have A4 := am A40
 clear A40
 replace H := Option.bind_eq_some_iff.mp H
 obtain ⟨t171, A50, H⟩ := H
 replace H : ((spec_l03Mod.f a0_0 (wrap64 (a2 + t171))).bind fun t172 => (spec_l03Put.l0 k l1 t172 (t172 == 0) 0 a0_0 l0_1 t166 t167)) = some (r1, r2) := H
 have A5 := am A50
 clear A50
 replace H := Option.bind_eq_some_iff.mp H
 obtain ⟨t172, A60, H⟩ := H
 replace H : (spec_l03Put.l0 k l1 t172 (t172 == 0) 0 a0_0 l0_1 t166 t167) = some (r1, r2) := H
 have A6 := am A60
 clear A60
 have H' := am H
 clear H
 go_enter Try.func33, Try.ntmps33
 try go_wp2_with (first | ((with_reducible refine gate_dst (N := 3) rfl ?_); refine box_event ?hg (N := 3) ?hd (cs := #[.int .i64 a0_0, .slice A0_1 l0_1.length c0_1]) (t := 28) ?hr ?_; (case hd => rfl); (case hg => rfl); (case hr => (go_simp; done)); intro gb164 hg w7 hbox hb; have n0_ := am (below_step (by repeat ((with_reducible exact HB.out))) hb); have n1_ := am (hbox); have n2_ := am ((by rw [hg]; exact (below_size (by repeat ((with_reducible exact HB.out)))) : w.heap.size ≤ gb164)); have n3_ := am ((by rw [hg]; exact (below_size (by repeat ((with_reducible exact HB.out)))) : w.heap.size ≤ gb164)); clear HB; have HB := n0_; have BK164 := n1_; have GW164 := n2_; have GE164 := n3_; clear n0_ n1_ n2_ n3_; clear hb hbox hg) | ((with_reducible refine gate_dst (N := 6) rfl ?_); refine box_event ?hg (N := 6) ?hd (cs := #[.int .i64 0, .slice none 0 0]) (t := 28) ?hr ?_; (case hd => rfl); (case hg => rfl); (case hr => (go_simp; done)); intro gb165 hg w8 hbox hb; have n0_ := am (blk_below (g := gb164) (o := .cells #[.int .i64 a0_0, .slice A0_1 l0_1.length c0_1] 28 (0, 0)) (by exact BK164.out) hb); have n1_ := am (below_step (by repeat ((with_reducible exact HB.out))) hb); have n2_ := am (hbox); have n3_ := am ((by rw [hg]; exact (below_size (by repeat ((with_reducible exact HB.out)))) : w.heap.size ≤ gb165)); have n4_ := am ((by rw [hg]; exact (below_size (by repeat ((with_reducible exact HB.out)))) : w.heap.size ≤ gb165)); have n5_ := am ((by rw [hg]; exact Nat.ne_of_lt (blk_lt (g := gb164) (o := .cells #[.int .i64 a0_0, .slice A0_1 l0_1.length c0_1] 28 (0, 0)) (by exact BK164.out)) : gb164 ≠ gb165)); have n6_ := am ((by rw [hg]; exact Nat.ne_of_gt (blk_lt (g := gb164) (o := .cells #[.int .i64 a0_0, .slice A0_1 l0_1.length c0_1] 28 (0, 0)) (by exact BK164.out)) : gb165 ≠ gb164)); clear BK164; clear HB; have BK164 := n0_; have HB := n1_; have BK165 := n2_; have GW165 := n3_; have GE165 := n4_; have NB164_165 := n5_; have NB165_164 := n6_; clear n0_ n1_ n2_ n3_ n4_ n5_ n6_; clear hb hbox hg; have hnb9 := NB164_165.out; have hnc9 := NB165_164.out; have hcz10_0 : w8.cell? ⟨gb164, 0, none⟩ = some (.int .i64 a0_0) := (blk_cell BK164.out 0).trans rfl; have hcz10_1 : w8.cell? ⟨gb164, 1, none⟩ = some (.slice A0_1 l0_1.length c0_1) := (blk_cell BK164.out 1).trans rfl; have hfz10_0 := blk_frozen BK164.out 0; have hfz10_1 := blk_frozen BK164.out 1) | ((with_reducible refine gate_callee (f := 34) rfl ?_); refine goesL_ (some 13) rfl rfl Try.func34 (by kernel_rfl) rfl #[.int .i64 a0_0] rfl (by (try simp only [List.map_toArray, List.map_cons, List.map_nil]); rfl) ?_; (with_reducible refine (spec_l03Empty.calls a0_0 t166 t167 _ A4.out).mono ?_); rintro e w11 ⟨v168, rfl, ho0, hb⟩; refine ⟨_, rfl, ?_⟩; have n0_ := am (Kd.S_lower ho0 (below_size (by repeat ((with_reducible exact HB.out))))); have n1_ := am (blk_below (g := gb164) (o := .cells #[.int .i64 a0_0, .slice A0_1 l0_1.length c0_1] 28 (0, 0)) (by exact BK164.out) hb); have n2_ := am (blk_below (g := gb165) (o := .cells #[.int .i64 0, .slice none 0 0] 28 (0, 0)) (by exact BK165.out) hb); have n3_ := am (below_step (by repeat ((with_reducible exact HB.out))) hb); clear BK164; clear BK165; clear HB; have HO169 := n0_; have BK164 := n1_; have BK165 := n2_; have HB := n3_; clear n0_ n1_ n2_ n3_; (try clear hb); (try clear hb2); (try clear hk); (try clear hi); (try clear ho0)) | ((with_reducible refine gate_dst (N := 7) rfl ?_); refine box_event ?hg (N := 7) ?hd (cs := #[.int .i64 0, .slice none 0 0]) (t := 28) ?hr ?_; (case hd => rfl); (case hg => rfl); (case hr => (go_simp; done)); intro gb170 hg w12 hbox hb; have n0_ := am (Kd.S_below (by (with_reducible repeat (apply Kd.S_drew)); exact HO169.out) hb); have n1_ := am (blk_below (g := gb164) (o := .cells #[.int .i64 a0_0, .slice A0_1 l0_1.length c0_1] 28 (0, 0)) (by exact BK164.out) hb); have n2_ := am (blk_below (g := gb165) (o := .cells #[.int .i64 0, .slice none 0 0] 28 (0, 0)) (by exact BK165.out) hb); have n3_ := am (below_step (by repeat ((with_reducible exact HB.out))) hb); have n4_ := am (hbox); have n5_ := am ((by rw [hg]; exact (below_size (by repeat ((with_reducible exact HB.out)))) : w.heap.size ≤ gb170)); have n6_ := am ((by rw [hg]; exact (below_size (by repeat ((with_reducible exact HB.out)))) : w.heap.size ≤ gb170)); have n7_ := am ((by rw [hg]; exact Nat.ne_of_lt (blk_lt (g := gb164) (o := .cells #[.int .i64 a0_0, .slice A0_1 l0_1.length c0_1] 28 (0, 0)) (by exact BK164.out)) : gb164 ≠ gb170)); have n8_ := am ((by rw [hg]; exact Nat.ne_of_gt (blk_lt (g := gb164) (o := .cells #[.int .i64 a0_0, .slice A0_1 l0_1.length c0_1] 28 (0, 0)) (by exact BK164.out)) : gb170 ≠ gb164)); have n9_ := am ((by rw [hg]; exact Nat.ne_of_lt (blk_lt (g := gb165) (o := .cells #[.int .i64 0, .slice none 0 0] 28 (0, 0)) (by exact BK165.out)) : gb165 ≠ gb170)); have n10_ := am ((by rw [hg]; exact Nat.ne_of_gt (blk_lt (g := gb165) (o := .cells #[.int .i64 0, .slice none 0 0] 28 (0, 0)) (by exact BK165.out)) : gb170 ≠ gb165)); clear HO169; clear BK164; clear BK165; clear HB; have HO169 := n0_; have BK164 := n1_; have BK165 := n2_; have HB := n3_; have BK170 := n4_; have GW170 := n5_; have GE170 := n6_; have NB164_170 := n7_; have NB170_164 := n8_; have NB165_170 := n9_; have NB170_165 := n10_; clear n0_ n1_ n2_ n3_ n4_ n5_ n6_ n7_ n8_ n9_ n10_; clear hb hbox hg; have hnb13 := NB170_164.out; have hnc13 := NB164_170.out; have hnb14 := NB170_165.out; have hnc14 := NB165_170.out; have hcz15_0 : w12.cell? ⟨gb170, 0, none⟩ = some (.int .i64 0) := (blk_cell BK170.out 0).trans rfl; have hcz15_1 : w12.cell? ⟨gb170, 1, none⟩ = some (.slice none 0 0) := (blk_cell BK170.out 1).trans rfl; have hfz15_0 := blk_frozen BK170.out 0; have hfz15_1 := blk_frozen BK170.out 1; obtain ⟨Ao16, co16, eo16⟩ := Kd.S_slice HO169.out; subst eo16))
 have n0_ : Aside0 (Kd.S k65 65 ((w12.setCell ⟨gb170, 0, none⟩ (.int .i64 t166)).setCell ⟨gb170, 1, none⟩ (.slice Ao16 t167.length co16)) w.heap.size (fun _ => True) (.slice Ao16 t167.length co16) t167) := ⟨by (with_reducible repeat (apply Kd.S_drew)); exact Kd.S_mono (Kd.S_far (p := ⟨gb170, 1, none⟩) (Kd.S_far (p := ⟨gb170, 0, none⟩) (Kd.S_types HO169.out BK170.out (by decide)) (fun _ hk => hk.2) (.int .i64 t166)) (fun _ hk => hk.2) (.slice Ao16 t167.length co16)) (fun _ hk => trivial)⟩
 have n1_ : Aside0 (((w12.setCell ⟨gb170, 0, none⟩ (.int .i64 t166)).setCell ⟨gb170, 1, none⟩ (.slice Ao16 t167.length co16)).heap[gb164]? = some (.cells #[.int .i64 a0_0, .slice A0_1 l0_1.length c0_1] 28 (0, 0))) := ⟨by (with_reducible repeat (refine blk_drew ?_)); refine blk_far ?_ NB164_170.out _; (with_reducible repeat (refine blk_drew ?_)); refine blk_far ?_ NB164_170.out _; (with_reducible repeat (refine blk_drew ?_)); exact BK164.out⟩
 have n2_ : Aside0 (((w12.setCell ⟨gb170, 0, none⟩ (.int .i64 t166)).setCell ⟨gb170, 1, none⟩ (.slice Ao16 t167.length co16)).heap[gb165]? = some (.cells #[.int .i64 0, .slice none 0 0] 28 (0, 0))) := ⟨by (with_reducible repeat (refine blk_drew ?_)); refine blk_far ?_ NB165_170.out _; (with_reducible repeat (refine blk_drew ?_)); refine blk_far ?_ NB165_170.out _; (with_reducible repeat (refine blk_drew ?_)); exact BK165.out⟩
 have n3_ : Aside0 (((w12.setCell ⟨gb170, 0, none⟩ (.int .i64 t166)).setCell ⟨gb170, 1, none⟩ (.slice Ao16 t167.length co16)).heap[gb170]? = some (.cells #[.int .i64 t166, .slice Ao16 t167.length co16] 28 (0, 0))) := ⟨by (with_reducible repeat (refine blk_drew ?_)); refine blk_put (cs := #[.int .i64 t166, .slice none 0 0]) ?_ 1 _ rfl; (with_reducible repeat (refine blk_drew ?_)); refine blk_put (cs := #[.int .i64 0, .slice none 0 0]) ?_ 0 _ rfl; (with_reducible repeat (refine blk_drew ?_)); exact BK170.out⟩
 have n4_ : Aside0 (Below w.heap.size w ((w12.setCell ⟨gb170, 0, none⟩ (.int .i64 t166)).setCell ⟨gb170, 1, none⟩ (.slice Ao16 t167.length co16))) := ⟨by repeat ((with_reducible first | exact HB.out | refine below_set ?_ GE170.out))⟩
 (try clear HO169)
 (try clear BK164)
 (try clear BK165)
 (try clear BK170)
 (try clear HB)
 generalize ((w12.setCell ⟨gb170, 0, none⟩ (.int .i64 t166)).setCell ⟨gb170, 1, none⟩ (.slice Ao16 t167.length co16)) = w17 at n0_ n1_ n2_ n3_ n4_ ⊢
 have HO169 := n0_
 have BK164 := n1_
 have BK165 := n2_
 have BK170 := n3_
 have HB := n4_
 clear n0_ n1_ n2_ n3_ n4_
 have n0_ := am (Kd.S_drew HO169.out)
 have n1_ := am (blk_drew BK164.out)
 have n2_ := am (blk_drew BK165.out)
 have n3_ := am (blk_drew BK170.out)
 have n4_ := am (below_drew1 HB.out)
 clear HO169
 clear BK164
 clear BK165
 clear BK170
 clear HB
 have HO169 := n0_
 have BK164 := n1_
 have BK165 := n2_
 have BK170 := n3_
 have HB := n4_
 clear n0_ n1_ n2_ n3_ n4_
 refine start_ (n := 9) (S := fun w' => w'.cell? ⟨gb164, 0, none⟩ = some (.int .i64 a0_0) ∧ w'.cell? ⟨gb164, 1, none⟩ = some (.slice A0_1 l0_1.length c0_1)) (ds := []) (bs 0 9) (by kernel_rfl) rfl rfl ⟨(blk_cell BK164.out 0).trans rfl, (blk_cell BK164.out 1).trans rfl⟩ (fun hHeld => ?_); refine with_tabW spec_l03Put.tab2 spec_l03Put.bits2 (fun HT_ HW_ => ?_)
 generalize w17.drew = w18 at HO169 BK164 BK165 BK170 HB hHeld ⊢
 refine pure_ (i := 0) (N := some 14) (v := ?_) (a' := ?_) (bs 1 9) rfl rfl (any_of HT_.out (by kernel_rfl)) (fun _ _ _ h => h) (Or.inl ⟨by rfl, ?_⟩) ?_ ?_; rotate_left; intro w'; go_simp; with_reducible rfl; rotate_left; simp only [Act.put, q1, q2, q3, i64_w, i32_w]; rfl
 refine pure_ (i := 2) (N := some 16) (v := ?_) (a' := ?_) (bs 5 9) rfl rfl (any_of HT_.out (by kernel_rfl)) (fun _ _ _ h => h) (Or.inl ⟨by rfl, ?_⟩) ?_ ?_; rotate_left; intro w'; go_simp; with_reducible rfl; rotate_left; simp only [Act.put, q1, q2, q3, i64_w, i32_w]; rfl
 refine pure_ (i := 4) (N := some 18) (v := ?_) (a' := ?_) (bs 21 9) rfl rfl (any_of HT_.out (by kernel_rfl)) (fun _ _ _ h => h) (Or.inl ⟨by rfl, ?_⟩) ?_ ?_; rotate_left; intro w'; go_simp; with_reducible rfl; rotate_left; simp only [Act.put, q1, q2, q3, i64_w, i32_w]; rfl
 refine take_ (i := 1) (N := some 15) (v := ?_) (a' := ?_) (bs 23 9) rfl rfl (take_ofW HT_.out HW_.out (by kernel_rfl)) (fun _ _ _ h => h) (Or.inl ⟨by rfl, ?_⟩) hHeld ?_ ?_; rotate_left; rintro w' ⟨s0, s1⟩; go_simp; with_reducible rfl; rotate_left; simp only [Act.put, q1, q2, q3, i64_w, i32_w]; rfl
 refine take_ (i := 3) (N := some 17) (v := ?_) (a' := ?_) (bs 31 9) rfl rfl (take_ofW HT_.out HW_.out (by kernel_rfl)) (fun _ _ _ h => h) (Or.inl ⟨by rfl, ?_⟩) hHeld ?_ ?_; rotate_left; rintro w' ⟨s0, s1⟩; go_simp; with_reducible rfl; rotate_left; simp only [Act.put, q1, q2, q3, i64_w, i32_w]; rfl
 refine one_ (i := 5) (N := some 19) (bs 63 9) rfl rfl (one_of HT_.out (by kernel_rfl)) (by decide) (fun K hK => ?_)
 refine goes_ Try.func32 (by kernel_rfl) rfl #[.agg #[.int .i64 a0_0, .slice A0_1 l0_1.length c0_1], .slice A1 l1.length c1] (by rfl) rfl rfl (by (try simp only [List.map_toArray, List.map_cons, List.map_nil]); rfl) ?_
 with_reducible refine (spec_l03At.calls k a0_0 _ _ l0_1 _ _ l1 t171 _ ?side1 ?side2 ?side3 ?side4 A5.out).mono ?_
 (case side1 => repeat (exact (Kd.C_below HR0_1.out HB.out)))
 (case side2 => exact HC0_1.out)
 (case side3 => repeat (exact (Kd.C_below HR1.out HB.out)))
 (case side4 => exact HC1.out)
 rintro e w19 ⟨rfl, hb⟩
 refine ⟨_, rfl, ?_⟩
 have n0_ := am (Kd.S_below (by (with_reducible repeat (apply Kd.S_drew)); exact HO169.out) hb)
 have n1_ := am (blk_below (g := gb164) (o := .cells #[.int .i64 a0_0, .slice A0_1 l0_1.length c0_1] 28 (0, 0)) (by exact BK164.out) hb)
 have n2_ := am (blk_below (g := gb165) (o := .cells #[.int .i64 0, .slice none 0 0] 28 (0, 0)) (by exact BK165.out) hb)
 have n3_ := am (blk_below (g := gb170) (o := .cells #[.int .i64 t166, .slice Ao16 t167.length co16] 28 (0, 0)) (by exact BK170.out) hb)
 have n4_ := am (below_step (by repeat ((with_reducible exact HB.out))) hb)
 clear HO169
 clear BK164
 clear BK165
 clear BK170
 clear HB
 have HO169 := n0_
 have BK164 := n1_
 have BK165 := n2_
 have BK170 := n3_
 have HB := n4_
 clear n0_ n1_ n2_ n3_ n4_
 (try clear hb)
 (try clear hb2)
 (try clear hk)
 (try clear hi)
 refine hK.out _ _ ⟨(blk_cell BK164.out 0).trans rfl, (blk_cell BK164.out 1).trans rfl⟩ (fun hHeld => ?_)
 clear hK K
 refine norm_ (a' := ?_) ?_ ?_; rotate_left; show Act.put _ (some 19) _ = _; simp only [Act.put, q1, q2, q3, i64_w, i32_w]; rfl
 refine pure_ (i := 6) (N := some 20) (v := ?_) (a' := ?_) (bs 127 9) rfl rfl (any_of HT_.out (by kernel_rfl)) (fun _ _ _ h => h) (Or.inl ⟨by rfl, ?_⟩) ?_ ?_; rotate_left; intro w'; go_simp; with_reducible rfl; rotate_left; simp only [Act.put, q1, q2, q3, i64_w, i32_w]; rfl
 refine one_ (i := 7) (N := some 21) (bs 255 9) rfl rfl (one_of HT_.out (by kernel_rfl)) (by decide) (fun K hK => ?_)
 refine goes_ Try.func69 (by kernel_rfl) rfl #[.int .i64 a0_0, .int .i64 (wrap64 (a2 + t171))] (by rfl) rfl rfl (by (try simp only [List.map_toArray, List.map_cons, List.map_nil]); rfl) ?_
 with_reducible refine (spec_l03Mod.calls a0_0 (wrap64 (a2 + t171)) t172 _ A6.out).mono ?_
 rintro e w' ⟨rfl, ⟨nd, rfl⟩⟩
 refine ⟨_, rfl, ?_⟩
 refine hK.out _ _ ⟨(blk_cell BK164.out 0).trans rfl, (blk_cell BK164.out 1).trans rfl⟩ (fun hHeld => ?_)
 clear hK K
 refine norm_ (a' := ?_) ?_ ?_; rotate_left; show Act.put _ (some 21) _ = _; simp only [Act.put, q1, q2, q3, i64_w, i32_w]; rfl
 refine pure_ (i := 8) (N := some 2) (v := ?_) (a' := ?_) (bs 511 9) rfl rfl (any_of HT_.out (by kernel_rfl)) (fun _ _ _ h => h) (Or.inl ⟨by rfl, ?_⟩) ?_ ?_; rotate_left; intro w'; go_simp; with_reducible rfl; rotate_left; simp only [Act.put, q1, q2, q3, i64_w, i32_w]; rfl
 refine done_ (done_of HT_.out (by kernel_rfl)) ?_
 try go_wp2
 go_loopg [8, 9] k (fun kq v8 v9 w' => ∃ (x8_1 : Bool) (x9_1 : Int) (x171001_1 : List (S65)) (u171001 : Value), v8 = .bool x8_1 ∧ v9 = .int .i64 x9_1 ∧ Aside0 (spec_l03Put.l0 kq l1 t172 x8_1 x9_1 a0_0 l0_1 t166 x171001_1 = some (r1, r2)) ∧ Aside0 (kq ≤ k) ∧ Aside0 (Kd.S k65 65 w' w.heap.size (fun _ => True) u171001 x171001_1) ∧ Aside0 (w'.heap[gb164]? = some (.cells #[.int .i64 a0_0, (.slice A0_1 l0_1.length c0_1)] 28 (0, 0))) ∧ Aside0 (w'.heap[gb165]? = some (.cells #[.int .i64 0, (.slice none 0 0)] 28 (0, 0))) ∧ Aside0 (w'.heap[gb170]? = some (.cells #[.int .i64 t166, u171001] 28 (0, 0))) ∧ Aside0 (Below w.heap.size w w'))
 case atStart => exact ⟨((t172 == 0)), (0), (t167), (.slice Ao16 t167.length co16), (by rfl), (by rfl), H', ⟨Nat.le_refl _⟩, ⟨by (with_reducible repeat (apply Kd.S_drewN)); exact HO169.out⟩, ⟨by (with_reducible repeat (refine blk_drewN ?_ _)); exact BK164.out⟩, ⟨by (with_reducible repeat (refine blk_drewN ?_ _)); exact BK165.out⟩, ⟨by (with_reducible repeat (refine blk_drewN ?_ _)); exact BK170.out⟩, ⟨by repeat ((with_reducible first | exact HB.out | apply pw_below_drewN))⟩⟩
 case round =>
  clear H'
  try clear c1
  try clear p2
  try clear c3
  try clear c6
  try clear p6
  try clear c9
  try clear c13
  try clear c14
  try clear hcz10_0
  try clear hcz10_1
  try clear hcz15_0
  try clear hcz15_1
  try clear hfz10_0
  try clear hfz10_1
  try clear hfz15_0
  try clear hfz15_1
  obtain ⟨x8_1, x9_1, x171001_1, u171001, rfl, rfl, HA, HK1, HO_171001, BK164, BK165, BK170, HB⟩ := hrel
  cases gk with
  | zero => exact absurd HA.out (by simp [spec_l03Put.l0])
  | succ k1 =>
   have H := HA.out
   clear HA
   simp only [spec_l03Put.l0] at H
   by_cases c20 : x9_1 < (l0_1.length : Int)
   · rw [if_pos c20] at H
     have c20b0 : decide (x9_1 < (l0_1.length : Int)) = true := decide_eq_true c20
     clear c20
     by_cases c21 : 0 ≤ x9_1
     · rw [if_pos c21] at H
       have c21b0 : decide (0 ≤ x9_1) = true := decide_eq_true c21
       clear c21
       have HC22 := am H
       clear H
       have hnb23 := NB164_165.out
       have hnc23 := NB165_164.out
       have hnb24 := NB164_170.out
       have hnc24 := NB170_164.out
       have hcz25_0 : wr.cell? ⟨gb164, 0, none⟩ = some (.int .i64 a0_0) := (blk_cell BK164.out 0).trans rfl
       have hcz25_1 : wr.cell? ⟨gb164, 1, none⟩ = some (.slice A0_1 l0_1.length c0_1) := (blk_cell BK164.out 1).trans rfl
       have hfz25_0 := blk_frozen BK164.out 0
       have hfz25_1 := blk_frozen BK164.out 1
       have p179 : 0 ≤ (x9_1 : Int) := of_decide_eq_true (by (with_reducible assumption))
       have q179 : x9_1 < (l0_1.length : Int) := of_decide_eq_true (by (with_reducible assumption))
       obtain ⟨ad179, A179_0, c179_0, e179, hx179_0, hx179_1, hl179_0, hi179_0⟩ := at_T65 HR0_1.out x9_1 p179 q179
       cases e179
       replace hx179_0 := (HB.out.cell (World.block_lt_of_cell? w _ hx179_0)).trans hx179_0
       replace hx179_1 := (HB.out.cell (World.block_lt_of_cell? w _ hx179_1)).trans hx179_1
       have HR179_0 := am hi179_0
       have HC179_0 := am hl179_0
       clear hi179_0 hl179_0
       replace p179 := eq_true p179
       replace q179 := eq_true q179
       go_upto_region 8 with (((with_reducible refine gate_dst (N := 10) rfl ?_); refine box_event ?hg (N := 10) ?hd (cs := #[.slice none 0 0, .int .i64 0]) (t := 65) ?hr ?_; (case hd => rfl); (case hg => rfl); (case hr => (go_simp; done)); intro gb180 hg w26 hbox hb; have n0_ := am (Kd.S_below (Kd.S_elderB (by (with_reducible repeat (apply Kd.S_drew)); exact HO_171001.out) gb180 (Nat.le_of_eq hg.symm)) hb); have n1_ := am (blk_below (g := gb164) (o := .cells #[.int .i64 a0_0, .slice (some ad179) l0_1.length c0_1] 28 (0, 0)) (by exact BK164.out) hb); have n2_ := am (blk_below (g := gb165) (o := .cells #[.int .i64 0, .slice none 0 0] 28 (0, 0)) (by exact BK165.out) hb); have n3_ := am (blk_below (g := gb170) (o := .cells #[.int .i64 t166, u171001] 28 (0, 0)) (by exact BK170.out) hb); have n4_ := am (below_step (by repeat ((with_reducible exact HB.out))) hb); have n5_ := am (hbox); have n6_ := am ((by rw [hg]; exact (below_size (by repeat ((with_reducible exact HB.out)))) : w.heap.size ≤ gb180)); have n7_ := am ((by rw [hg]; exact (below_size (by repeat ((with_reducible exact HB.out)))) : w.heap.size ≤ gb180)); have n8_ := am ((by rw [hg]; exact Nat.ne_of_lt (blk_lt (g := gb164) (o := .cells #[.int .i64 a0_0, .slice (some ad179) l0_1.length c0_1] 28 (0, 0)) (by exact BK164.out)) : gb164 ≠ gb180)); have n9_ := am ((by rw [hg]; exact Nat.ne_of_gt (blk_lt (g := gb164) (o := .cells #[.int .i64 a0_0, .slice (some ad179) l0_1.length c0_1] 28 (0, 0)) (by exact BK164.out)) : gb180 ≠ gb164)); have n10_ := am ((by rw [hg]; exact Nat.ne_of_lt (blk_lt (g := gb165) (o := .cells #[.int .i64 0, .slice none 0 0] 28 (0, 0)) (by exact BK165.out)) : gb165 ≠ gb180)); have n11_ := am ((by rw [hg]; exact Nat.ne_of_gt (blk_lt (g := gb165) (o := .cells #[.int .i64 0, .slice none 0 0] 28 (0, 0)) (by exact BK165.out)) : gb180 ≠ gb165)); have n12_ := am ((by rw [hg]; exact Nat.ne_of_lt (blk_lt (g := gb170) (o := .cells #[.int .i64 t166, u171001] 28 (0, 0)) (by exact BK170.out)) : gb170 ≠ gb180)); have n13_ := am ((by rw [hg]; exact Nat.ne_of_gt (blk_lt (g := gb170) (o := .cells #[.int .i64 t166, u171001] 28 (0, 0)) (by exact BK170.out)) : gb180 ≠ gb170)); clear HO_171001; clear BK164; clear BK165; clear BK170; clear HB; have HO_171001 := n0_; have BK164 := n1_; have BK165 := n2_; have BK170 := n3_; have HB := n4_; have BK180 := n5_; have GW180 := n6_; have GE180 := n7_; have NB164_180 := n8_; have NB180_164 := n9_; have NB165_180 := n10_; have NB180_165 := n11_; have NB170_180 := n12_; have NB180_170 := n13_; clear n0_ n1_ n2_ n3_ n4_ n5_ n6_ n7_ n8_ n9_ n10_ n11_ n12_ n13_; clear hb hbox hg; have hnb27 := NB180_164.out; have hnc27 := NB164_180.out; have hnb28 := NB180_165.out; have hnc28 := NB165_180.out; have hnb29 := NB180_170.out; have hnc29 := NB170_180.out; have hcz30_0 : w26.cell? ⟨gb180, 0, none⟩ = some (.slice none 0 0) := (blk_cell BK180.out 0).trans rfl; have hcz30_1 : w26.cell? ⟨gb180, 1, none⟩ = some (.int .i64 0) := (blk_cell BK180.out 1).trans rfl; have hfz30_0 := blk_frozen BK180.out 0; have hfz30_1 := blk_frozen BK180.out 1))
       (try simp only [Act.put, q1, q2, q3])
       go_cut [43] (fun v43 wc => ∃ (kq : Nat) (x43_21 : Bool), v43 = .bool x43_21 ∧ Aside0 (spec_l03Put.j1 kq l1 t172 x8_1 x9_1 x43_21 a0_0 l0_1 t166 x171001_1 ((rd_T65 l0_1 x9_1).f0) ((rd_T65 l0_1 x9_1).f1) = some (r1, r2)) ∧ Aside0 (kq ≤ k1) ∧ Aside0 (Kd.S k65 65 wc w.heap.size (fun k_ => k_ ≠ gb180) u171001 x171001_1) ∧ Aside0 (wc.heap[gb164]? = some (.cells #[.int .i64 a0_0, (.slice (some ad179) l0_1.length c0_1)] 28 (0, 0))) ∧ Aside0 (wc.heap[gb165]? = some (.cells #[.int .i64 0, (.slice none 0 0)] 28 (0, 0))) ∧ Aside0 (wc.heap[gb170]? = some (.cells #[.int .i64 t166, u171001] 28 (0, 0))) ∧ Aside0 (wc.heap[gb180]? = some (.cells #[(.slice A179_0 ((rd_T65 l0_1 x9_1).f0).length c179_0), .int .i64 ((rd_T65 l0_1 x9_1).f1)] 65 (0, 0))) ∧ Aside0 (Below w.heap.size w wc))
       case first =>
        have H := HC22.out
        clear HC22
        by_cases c31 : x8_1 = true
        · subst c31
          have H1 : (spec_l03Put.j1 k1 l1 t172 true x9_1 false a0_0 l0_1 t166 x171001_1 ((rd_T65 l0_1 x9_1).f0) ((rd_T65 l0_1 x9_1).f1)) = some (r1, r2) := by rw [if_pos rfl] at H; exact H
          clear H
          have H := H1
          clear H1
          have H' := am H
          clear H
          go_wp2
          go_meet
          case rel => exact ⟨_, (false), (by rfl), H', ⟨by have := HK1.out; omega⟩, ⟨by (with_reducible repeat (apply Kd.S_drew)); exact Kd.S_mono (Kd.S_far (p := ⟨gb180, 1, none⟩) (Kd.S_far (p := ⟨gb180, 0, none⟩) (Kd.S_mono HO_171001.out (fun k_ hk => (⟨hk, hk.2⟩ : _ ∧ k_ ≠ gb180))) (fun _ hk => hk.2) (.slice A179_0 ((rd_T65 l0_1 x9_1).f0).length c179_0)) (fun _ hk => hk.2) (.int .i64 ((rd_T65 l0_1 x9_1).f1))) (fun _ hk => hk.1.2)⟩, ⟨by (with_reducible repeat (refine blk_drew ?_)); refine blk_far ?_ NB164_180.out _; (with_reducible repeat (refine blk_drew ?_)); refine blk_far ?_ NB164_180.out _; (with_reducible repeat (refine blk_drew ?_)); exact BK164.out⟩, ⟨by (with_reducible repeat (refine blk_drew ?_)); refine blk_far ?_ NB165_180.out _; (with_reducible repeat (refine blk_drew ?_)); refine blk_far ?_ NB165_180.out _; (with_reducible repeat (refine blk_drew ?_)); exact BK165.out⟩, ⟨by (with_reducible repeat (refine blk_drew ?_)); refine blk_far ?_ NB170_180.out _; (with_reducible repeat (refine blk_drew ?_)); refine blk_far ?_ NB170_180.out _; (with_reducible repeat (refine blk_drew ?_)); exact BK170.out⟩, ⟨by (with_reducible repeat (refine blk_drew ?_)); refine blk_put (cs := #[.slice A179_0 ((rd_T65 l0_1 x9_1).f0).length c179_0, .int .i64 0]) ?_ 1 _ rfl; (with_reducible repeat (refine blk_drew ?_)); refine blk_put (cs := #[.slice none 0 0, .int .i64 0]) ?_ 0 _ rfl; (with_reducible repeat (refine blk_drew ?_)); exact BK180.out⟩, ⟨by repeat ((with_reducible first | exact HB.out | refine below_set ?_ GE180.out))⟩⟩
        · replace c31 := Bool.eq_false_iff.mpr c31
          subst c31
          have H1 : ((spec_l01Before.f k1 l1 ((rd_T65 l0_1 x9_1).f0)).bind fun t181 => (spec_l03Put.j1 k1 l1 t172 false x9_1 t181 a0_0 l0_1 t166 x171001_1 ((rd_T65 l0_1 x9_1).f0) ((rd_T65 l0_1 x9_1).f1))) = some (r1, r2) := by rw [if_neg (show ¬ (false = true) by decide)] at H; exact H
          clear H
          have H := H1
          clear H1
          replace H := Option.bind_eq_some_iff.mp H
          obtain ⟨t181, A320, H⟩ := H
          replace H : (spec_l03Put.j1 k1 l1 t172 false x9_1 t181 a0_0 l0_1 t166 x171001_1 ((rd_T65 l0_1 x9_1).f0) ((rd_T65 l0_1 x9_1).f1)) = some (r1, r2) := H
          have A32 := am A320
          clear A320
          have H' := am H
          clear H
          have hnb33 := NB180_164.out
          have hnc33 := NB164_180.out
          have hnb34 := NB180_165.out
          have hnc34 := NB165_180.out
          have hnb35 := NB180_170.out
          have hnc35 := NB170_180.out
          have hcz36_0 : w26.cell? ⟨gb180, 0, none⟩ = some (.slice none 0 0) := (blk_cell BK180.out 0).trans rfl
          have hcz36_1 : w26.cell? ⟨gb180, 1, none⟩ = some (.int .i64 0) := (blk_cell BK180.out 1).trans rfl
          have hfz36_0 := blk_frozen BK180.out 0
          have hfz36_1 := blk_frozen BK180.out 1
          go_wp2_with ((go_at_call 70; (with_reducible refine (spec_l01Before.calls k1 _ _ l1 _ _ ((rd_T65 l0_1 x9_1).f0) t181 _ ?side1 ?side2 ?side3 ?side4 A32.out).mono ?_); (case side1 => exact Kd.C_below HR1.out (by repeat ((with_reducible first | exact HB.out | refine below_set ?_ GE180.out)))); (case side2 => exact HC1.out); (case side3 => exact Kd.C_below HR179_0.out (by repeat ((with_reducible first | exact HB.out | refine below_set ?_ GE180.out)))); (case side4 => exact HC179_0.out); rintro e w' ⟨rfl, ⟨nd, rfl⟩⟩))
          go_meet
          case rel => exact ⟨_, (t181), (by rfl), H', ⟨by have := HK1.out; omega⟩, ⟨by (with_reducible repeat (apply Kd.S_drewN)); exact Kd.S_mono (Kd.S_far (p := ⟨gb180, 1, none⟩) (Kd.S_far (p := ⟨gb180, 0, none⟩) (Kd.S_mono HO_171001.out (fun k_ hk => (⟨hk, hk.2⟩ : _ ∧ k_ ≠ gb180))) (fun _ hk => hk.2) (.slice A179_0 ((rd_T65 l0_1 x9_1).f0).length c179_0)) (fun _ hk => hk.2) (.int .i64 ((rd_T65 l0_1 x9_1).f1))) (fun _ hk => hk.1.2)⟩, ⟨by (with_reducible repeat (refine blk_drewN ?_ _)); refine blk_far ?_ NB164_180.out _; (with_reducible repeat (refine blk_drew ?_)); refine blk_far ?_ NB164_180.out _; (with_reducible repeat (refine blk_drew ?_)); exact BK164.out⟩, ⟨by (with_reducible repeat (refine blk_drewN ?_ _)); refine blk_far ?_ NB165_180.out _; (with_reducible repeat (refine blk_drew ?_)); refine blk_far ?_ NB165_180.out _; (with_reducible repeat (refine blk_drew ?_)); exact BK165.out⟩, ⟨by (with_reducible repeat (refine blk_drewN ?_ _)); refine blk_far ?_ NB170_180.out _; (with_reducible repeat (refine blk_drew ?_)); refine blk_far ?_ NB170_180.out _; (with_reducible repeat (refine blk_drew ?_)); exact BK170.out⟩, ⟨by (with_reducible repeat (refine blk_drewN ?_ _)); refine blk_put (cs := #[.slice A179_0 ((rd_T65 l0_1 x9_1).f0).length c179_0, .int .i64 0]) ?_ 1 _ rfl; (with_reducible repeat (refine blk_drew ?_)); refine blk_put (cs := #[.slice none 0 0, .int .i64 0]) ?_ 0 _ rfl; (with_reducible repeat (refine blk_drew ?_)); exact BK180.out⟩, ⟨by repeat ((with_reducible first | exact HB.out | apply pw_below_drewN | refine below_set ?_ GE180.out))⟩⟩
       case rest =>
        clear HC22
        try clear c1
        try clear p1
        try clear q1
        try clear hx1
        try clear c2
        try clear p2
        try clear c3
        try clear c6
        try clear p6
        try clear c9
        try clear c13
        try clear c14
        try clear c17
        try clear p17
        try clear q17
        try clear hx17
        try clear c20
        try clear c20b0
        try clear c21
        try clear c21b0
        try clear c23
        try clear c24
        try clear c27
        try clear c28
        try clear c29
        try clear c31
        try clear c32
        try clear c33
        try clear c34
        try clear c35
        try clear hcz10_0
        try clear hcz10_1
        try clear hcz15_0
        try clear hcz15_1
        try clear hcz25_0
        try clear hcz25_1
        try clear hcz30_0
        try clear hcz30_1
        try clear hcz36_0
        try clear hcz36_1
        try clear hfz10_0
        try clear hfz10_1
        try clear hfz15_0
        try clear hfz15_1
        try clear hfz25_0
        try clear hfz25_1
        try clear hfz30_0
        try clear hfz30_1
        try clear hfz36_0
        try clear hfz36_1
        try clear hx179_0
        try clear hx179_1
        try clear p179
        try clear p2
        try clear p6
        try clear q179
        obtain ⟨kq, x43_21, rfl, HA, HJ21, HO_171001, BK164, BK165, BK170, BK180, HB⟩ := hcut
        cases kq with
        | zero => exact absurd HA.out (by simp [spec_l03Put.j1])
        | succ kj21 =>
         have H := HA.out
         clear HA
         simp only [spec_l03Put.j1] at H
         have HC37 := am H
         clear H
         go_upto_if 43 with (fail)
         go_cut [8] (fun v8 wc => ∃ (kq : Nat) (x8_36 : Bool) (x171001_36 : List (S65)) (u171001 : Value), v8 = .bool x8_36 ∧ Aside0 (spec_l03Put.j2 kq l1 t172 x8_36 x9_1 a0_0 l0_1 t166 x171001_36 ((rd_T65 l0_1 x9_1).f0) ((rd_T65 l0_1 x9_1).f1) = some (r1, r2)) ∧ Aside0 (kq ≤ kj21) ∧ Aside0 (Kd.S k65 65 wc w.heap.size (fun k_ => k_ ≠ gb180) u171001 x171001_36) ∧ Aside0 (wc.heap[gb164]? = some (.cells #[.int .i64 a0_0, (.slice (some ad179) l0_1.length c0_1)] 28 (0, 0))) ∧ Aside0 (wc.heap[gb165]? = some (.cells #[.int .i64 0, (.slice none 0 0)] 28 (0, 0))) ∧ Aside0 (wc.heap[gb170]? = some (.cells #[.int .i64 t166, u171001] 28 (0, 0))) ∧ Aside0 (wc.heap[gb180]? = some (.cells #[(.slice A179_0 ((rd_T65 l0_1 x9_1).f0).length c179_0), .int .i64 ((rd_T65 l0_1 x9_1).f1)] 65 (0, 0))) ∧ Aside0 (Below w.heap.size w wc))
         case first =>
          have H := HC37.out
          clear HC37
          by_cases c38 : x43_21 = true
          · subst c38
            have H1 : ((spec_l01Own.f l1).bind fun t182 => (if x171001_1.length < 4398046511104 then (spec_l03Put.j2 kj21 l1 t172 true x9_1 a0_0 l0_1 t166 (x171001_1 ++ [(⟨t182, t172⟩ : S65)]) ((rd_T65 l0_1 x9_1).f0) ((rd_T65 l0_1 x9_1).f1)) else (none))) = some (r1, r2) := by rw [if_pos rfl] at H; exact H
            clear H
            have H := H1
            clear H1
            replace H := Option.bind_eq_some_iff.mp H
            obtain ⟨t182, A390, H⟩ := H
            replace H : (if x171001_1.length < 4398046511104 then (spec_l03Put.j2 kj21 l1 t172 true x9_1 a0_0 l0_1 t166 (x171001_1 ++ [(⟨t182, t172⟩ : S65)]) ((rd_T65 l0_1 x9_1).f0) ((rd_T65 l0_1 x9_1).f1)) else (none)) = some (r1, r2) := H
            have A39 := am A390
            clear A390
            by_cases c40 : x171001_1.length < 4398046511104
            · rw [if_pos c40] at H
              have LMc40 := am c40
              clear c40
              obtain ⟨y185, hy185⟩ : ∃ y_ : List (S65), y_ = (x171001_1 ++ [(⟨t182, t172⟩ : S65)]) := ⟨_, rfl⟩
              replace H : (spec_l03Put.j2 kj21 l1 t172 true x9_1 a0_0 l0_1 t166 y185 ((rd_T65 l0_1 x9_1).f0) ((rd_T65 l0_1 x9_1).f1)) = some (r1, r2) := by (rw [hy185]; with_reducible exact H)
              have Ny185 := am hy185
              clear hy185
              have H' := am H
              clear H
              try go_wp2
              have n0_ := am (Kd.S_drew HO_171001.out)
              have n1_ := am (blk_drew BK164.out)
              have n2_ := am (blk_drew BK165.out)
              have n3_ := am (blk_drew BK170.out)
              have n4_ := am (blk_drew BK180.out)
              have n5_ := am (below_drew1 HB.out)
              clear HO_171001
              clear BK164
              clear BK165
              clear BK170
              clear BK180
              clear HB
              have HO_171001 := n0_
              have BK164 := n1_
              have BK165 := n2_
              have BK170 := n3_
              have BK180 := n4_
              have HB := n5_
              clear n0_ n1_ n2_ n3_ n4_ n5_
              refine start_ (n := 10) (S := fun w' => w'.cell? ⟨gb170, 0, none⟩ = some (.int .i64 t166) ∧ w'.cell? ⟨gb170, 1, none⟩ = some (u171001)) (ds := [9]) (bs 0 10) (by kernel_rfl) rfl rfl ⟨(blk_cell BK170.out 0).trans rfl, (blk_cell BK170.out 1).trans rfl⟩ (fun hHeld => ?_); refine with_tabW spec_l03Put.tab9 spec_l03Put.bits9 (fun HT_ HW_ => ?_)
              generalize wc.drew = w41 at HO_171001 BK164 BK165 BK170 BK180 HB hHeld ⊢
              refine pure_ (i := 0) (N := some 44) (v := ?_) (a' := ?_) (bs 1 10) rfl rfl (any_of HT_.out (by kernel_rfl)) (fun _ _ _ h => h) (Or.inl ⟨by rfl, ?_⟩) ?_ ?_; rotate_left; intro w'; go_simp; with_reducible rfl; rotate_left; simp only [Act.put, q1, q2, q3, i64_w, i32_w]; rfl
              refine pure_ (i := 2) (N := some 46) (v := ?_) (a' := ?_) (bs 5 10) rfl rfl (any_of HT_.out (by kernel_rfl)) (fun _ _ _ h => h) (Or.inl ⟨by rfl, ?_⟩) ?_ ?_; rotate_left; intro w'; go_simp; with_reducible rfl; rotate_left; simp only [Act.put, q1, q2, q3, i64_w, i32_w]; rfl
              refine pure_ (i := 4) (N := some 48) (v := ?_) (a' := ?_) (bs 21 10) rfl rfl (any_of HT_.out (by kernel_rfl)) (fun _ _ _ h => h) (Or.inl ⟨by rfl, ?_⟩) ?_ ?_; rotate_left; intro w'; go_simp; with_reducible rfl; rotate_left; simp only [Act.put, q1, q2, q3, i64_w, i32_w]; rfl
              refine take_ (i := 1) (N := some 45) (v := ?_) (a' := ?_) (bs 23 10) rfl rfl (take_ofW HT_.out HW_.out (by kernel_rfl)) (fun _ _ _ h => h) (Or.inl ⟨by rfl, ?_⟩) hHeld ?_ ?_; rotate_left; rintro w' ⟨s0, s1⟩; go_simp; with_reducible rfl; rotate_left; simp only [Act.put, q1, q2, q3, i64_w, i32_w]; rfl
              refine one_ (i := 3) (N := some 47) (bs 31 10) rfl rfl (one_of HT_.out (by kernel_rfl)) (by decide) (fun K hK => ?_)
              refine goes_ Try.func50 (by kernel_rfl) rfl #[.slice A1 l1.length c1] (by rfl) rfl rfl (by (try simp only [List.map_toArray, List.map_cons, List.map_nil]); rfl) ?_
              with_reducible refine (spec_l01Own.calls _ _ l1 t182 _ ?side1 ?side2 A39.out).mono ?_
              (case side1 => repeat (exact (Kd.C_below HR1.out HB.out)))
              (case side2 => exact HC1.out)
              rintro e w42 ⟨v183, rfl, ho0, hb⟩
              refine ⟨_, rfl, ?_⟩
              have n0_ := am (Kd.S_elder' (by (with_reducible repeat (apply Kd.S_drew)); exact HO_171001.out) (Kd.R_base ho0) hb)
              have n1_ := am (Kd.R_lower ho0 (below_size (by repeat ((with_reducible exact HB.out)))))
              have n2_ := am (blk_below (g := gb164) (o := .cells #[.int .i64 a0_0, .slice (some ad179) l0_1.length c0_1] 28 (0, 0)) (by exact BK164.out) hb)
              have n3_ := am (blk_below (g := gb165) (o := .cells #[.int .i64 0, .slice none 0 0] 28 (0, 0)) (by exact BK165.out) hb)
              have n4_ := am (blk_below (g := gb170) (o := .cells #[.int .i64 t166, u171001] 28 (0, 0)) (by exact BK170.out) hb)
              have n5_ := am (blk_below (g := gb180) (o := .cells #[.slice A179_0 ((rd_T65 l0_1 x9_1).f0).length c179_0, .int .i64 ((rd_T65 l0_1 x9_1).f1)] 65 (0, 0)) (by exact BK180.out) hb)
              have n6_ := am (below_step (by repeat ((with_reducible exact HB.out))) hb)
              clear HO_171001
              clear BK164
              clear BK165
              clear BK170
              clear BK180
              clear HB
              have HO_171001 := n0_
              have HO184 := n1_
              have BK164 := n2_
              have BK165 := n3_
              have BK170 := n4_
              have BK180 := n5_
              have HB := n6_
              clear n0_ n1_ n2_ n3_ n4_ n5_ n6_
              (try clear hb)
              (try clear hb2)
              (try clear hk)
              (try clear hi)
              (try clear ho0)
              obtain ⟨Ao43, co43, eo43⟩ := Kd.R_slice HO184.out
              (subst eo43)
              refine hK.out _ _ ⟨(blk_cell BK170.out 0).trans rfl, (blk_cell BK170.out 1).trans rfl⟩ (fun hHeld => ?_)
              clear hK K
              refine norm_ (a' := ?_) ?_ ?_; rotate_left; show Act.put _ (some 47) _ = _; simp only [Act.put, q1, q2, q3, i64_w, i32_w]; rfl
              refine pure_ (i := 5) (N := some 49) (v := ?_) (a' := ?_) (bs 63 10) rfl rfl (any_of HT_.out (by kernel_rfl)) (fun _ _ _ h => h) (Or.inl ⟨by rfl, ?_⟩) ?_ ?_; rotate_left; intro w'; go_simp; with_reducible rfl; rotate_left; simp only [Act.put, q1, q2, q3, i64_w, i32_w]; rfl
              refine one_ (i := 6) (N := some 50) (bs 127 10) rfl rfl (one_of HT_.out (by kernel_rfl)) (by decide) (fun K hK => ?_)
              refine value_ (w1 := ?_) (v := ?_) (by rfl) rfl ?_ ?_
              rotate_left 2
              · go_simp
                constructor
                · rfl
                · rfl
              refine hK.out _ _ ⟨(blk_cell (blk_alloc BK170.out _) 0).trans rfl, (blk_cell (blk_alloc BK170.out _) 1).trans rfl⟩ (fun hHeld => ?_)
              clear hK K
              refine norm_ (a' := ?_) ?_ ?_; rotate_left; show Act.put _ (some 50) _ = _; simp only [Act.put, q1, q2, q3, i64_w, i32_w]; rfl
              refine one_ (i := 7) (N := some 51) (bs 255 10) rfl rfl (one_of HT_.out (by kernel_rfl)) (by decide) (fun K hK => ?_)
              refine Kd.S_append_step k65 (w0 := w) w.heap.size (by rfl) (.tmp 45) (.tmp 50) 26 65 (.agg #[(.slice none 0 0), (.int .i64 0)]) 32 rfl Try.underlying26 info65 rfl (by decide) (by omega) u171001 x171001_1 (⟨t182, t172⟩ : S65) [.slice Ao43 t182.length co43, .int .i64 t172] (fun k_ => k_ ≠ gb180) (fun k_ => some k_ = (.slice Ao43 t182.length co43 : Value).ownBlock) rfl rfl ?aP (fun k_ hk_ => ((Kd.R_mono (ok' := fun k_ => ((fun k_ => k_ ≠ gb180)) k_ ∧ some k_ ≠ (u171001 : Value).ownBlock) (Kd.R_types (Kd.R_apart' (HO184.out) (Kd.S_typed HO_171001.out) (by decide)) BK180.out (by decide)) (fun k_ hk => ⟨hk.2, hk.1.2⟩))).1 k_ hk_.symm) ?aF ?aO ?aB ?aS ?aL ?_
              (case aP => exact k65_mkM _ _ _ (⟨t182, t172⟩ : S65) (Kd.R_mono (Kd.R_tight rfl (Kd.R_mono (ok' := fun k_ => ((fun k_ => k_ ≠ gb180)) k_ ∧ some k_ ≠ (u171001 : Value).ownBlock) (Kd.R_types (Kd.R_apart' (HO184.out) (Kd.S_typed HO_171001.out) (by decide)) BK180.out (by decide)) (fun k_ hk => ⟨hk.2, hk.1.2⟩))) (fun _ h_ => h_)))
              (case aB => exact (by repeat ((with_reducible exact HB.out))))
              (case aF => exact (fun k_ hk => Kd.freshB (g := gb180) (o := .cells #[.slice A179_0 ((rd_T65 l0_1 x9_1).f0).length c179_0, .int .i64 ((rd_T65 l0_1 x9_1).f1)] 65 (0, 0)) (by exact BK180.out) k_ hk))
              (case aO => exact (by (with_reducible repeat (apply Kd.S_drew)); exact Kd.S_mono HO_171001.out (fun k_ hk => ⟨hk.1, fun e_ => hk.2 e_⟩)))
              (case aS => exact (below_size (by repeat ((with_reducible exact HB.out)))))
              (case aL => have := LMc40.out; omega)
              intro v186 w44 ho hb hg hat
              rw [← Ny185.out] at ho
              have n0_ := am (blk_grown (g := gb164) (o := .cells #[.int .i64 a0_0, .slice (some ad179) l0_1.length c0_1] 28 (0, 0)) (by exact BK164.out) hg (Kd.S_ne HO_171001.out BK164.out (by decide)))
              have n1_ := am (blk_grown (g := gb165) (o := .cells #[.int .i64 0, .slice none 0 0] 28 (0, 0)) (by exact BK165.out) hg (Kd.S_ne HO_171001.out BK165.out (by decide)))
              have n2_ := am (blk_grown (g := gb170) (o := .cells #[.int .i64 t166, u171001] 28 (0, 0)) (by exact BK170.out) hg (Kd.S_ne HO_171001.out BK170.out (by decide)))
              have n3_ := am (blk_grown (g := gb180) (o := .cells #[.slice A179_0 ((rd_T65 l0_1 x9_1).f0).length c179_0, .int .i64 ((rd_T65 l0_1 x9_1).f1)] 65 (0, 0)) (by exact BK180.out) hg (Kd.S_away HO_171001.out (fun _ hk => hk.1)))
              have n4_ := am (hb)
              have n5_ := am (ho)
              clear BK164
              clear BK165
              clear BK170
              clear BK180
              clear HB
              clear HO_171001
              clear HO184
              have BK164 := n0_
              have BK165 := n1_
              have BK170 := n2_
              have BK180 := n3_
              have HB := n4_
              have HO187 := n5_
              clear n0_ n1_ n2_ n3_ n4_ n5_
              clear ho hb hg hat
              obtain ⟨Ao45, co45, eo45⟩ := Kd.S_slice HO187.out
              (subst eo45)
              refine hK.out _ _ ⟨(blk_cell BK170.out 0).trans rfl, (blk_cell BK170.out 1).trans rfl⟩ (fun hHeld => ?_)
              clear hK K
              refine norm_ (a' := ?_) ?_ ?_; rotate_left; show Act.put _ (some 51) _ = _; simp only [Act.put, q1, q2, q3, i64_w, i32_w]; rfl
              refine pure_ (i := 8) (N := some 52) (v := ?_) (a' := ?_) (bs 511 10) rfl rfl (any_of HT_.out (by kernel_rfl)) (fun _ _ _ h => h) (Or.inl ⟨by rfl, ?_⟩) ?_ ?_; rotate_left; intro w'; go_simp; with_reducible rfl; rotate_left; simp only [Act.put, q1, q2, q3, i64_w, i32_w]; rfl
              refine last_ (i := 9) (N := none) (bs 1023 10) rfl rfl (one_of HT_.out (by kernel_rfl)) (by decide) (fun K hK => ?_)
              have hs46 : w44.cell? ⟨gb170, 1, none⟩ = some (u171001) := (blk_cell BK170.out 1).trans rfl
              have hfs46 := blk_frozen BK170.out 1
              have hns46_0 := NB164_170.out
              have hns46_1 := NB165_170.out
              have hns46_3 := NB180_170.out
              have hms46_0 := NB170_164.out
              have hms46_1 := NB170_165.out
              have hms46_3 := NB170_180.out
              refine skip_ (w1 := ?_) (by rfl) rfl ?_ ?_
              rotate_left
              · go_simp
                rfl
              refine hK.out _ _ ?_
              clear hK K
              refine done_ (done_of HT_.out (by kernel_rfl)) ?_
              try go_wp2
              go_meet
              case rel => exact ⟨_, (true), (y185), (.slice Ao45 y185.length co45), (by rfl), H', ⟨by have := HK1.out; have := HJ21.out; omega⟩, ⟨by (with_reducible repeat (apply Kd.S_drew)); exact Kd.S_mono (Kd.S_far (p := ⟨gb170, 1, none⟩) (Kd.S_types HO187.out BK170.out (by decide)) (fun _ hk => hk.2) (.slice Ao45 y185.length co45)) (fun _ hk => hk.1)⟩, ⟨by (with_reducible repeat (refine blk_drew ?_)); refine blk_far ?_ NB164_170.out _; (with_reducible repeat (refine blk_drew ?_)); exact BK164.out⟩, ⟨by (with_reducible repeat (refine blk_drew ?_)); refine blk_far ?_ NB165_170.out _; (with_reducible repeat (refine blk_drew ?_)); exact BK165.out⟩, ⟨by (with_reducible repeat (refine blk_drew ?_)); refine blk_put (cs := #[.int .i64 t166, u171001]) ?_ 1 _ rfl; (with_reducible repeat (refine blk_drew ?_)); exact BK170.out⟩, ⟨by (with_reducible repeat (refine blk_drew ?_)); refine blk_far ?_ NB180_170.out _; (with_reducible repeat (refine blk_drew ?_)); exact BK180.out⟩, ⟨by repeat ((with_reducible first | exact HB.out | refine below_set ?_ GE170.out))⟩⟩
            · rw [if_neg c40] at H
              exact absurd H (by simp)
          · replace c38 := Bool.eq_false_iff.mpr c38
            subst c38
            have H1 : (spec_l03Put.j2 kj21 l1 t172 x8_1 x9_1 a0_0 l0_1 t166 x171001_1 ((rd_T65 l0_1 x9_1).f0) ((rd_T65 l0_1 x9_1).f1)) = some (r1, r2) := by rw [if_neg (show ¬ (false = true) by decide)] at H; exact H
            clear H
            have H := H1
            clear H1
            have H' := am H
            clear H
            go_wp2
            go_meet
            case rel => exact ⟨_, (x8_1), (x171001_1), (u171001), (by rfl), H', ⟨by have := HK1.out; have := HJ21.out; omega⟩, ⟨by (with_reducible repeat (apply Kd.S_drew)); exact HO_171001.out⟩, ⟨by (with_reducible repeat (refine blk_drew ?_)); exact BK164.out⟩, ⟨by (with_reducible repeat (refine blk_drew ?_)); exact BK165.out⟩, ⟨by (with_reducible repeat (refine blk_drew ?_)); exact BK170.out⟩, ⟨by (with_reducible repeat (refine blk_drew ?_)); exact BK180.out⟩, ⟨by repeat ((with_reducible exact HB.out))⟩⟩
         case rest =>
          clear HC37
          try clear c1
          try clear p1
          try clear q1
          try clear hx1
          try clear c2
          try clear p2
          try clear c3
          try clear c4
          try clear c5
          try clear c6
          try clear p6
          try clear c9
          try clear c13
          try clear c14
          try clear c17
          try clear p17
          try clear q17
          try clear hx17
          try clear c20
          try clear c20b0
          try clear c21
          try clear c21b0
          try clear c23
          try clear c24
          try clear c27
          try clear c28
          try clear c29
          try clear c31
          try clear c32
          try clear c33
          try clear c34
          try clear c35
          try clear c38
          try clear c40
          try clear hcz10_0
          try clear hcz10_1
          try clear hcz15_0
          try clear hcz15_1
          try clear hcz25_0
          try clear hcz25_1
          try clear hcz30_0
          try clear hcz30_1
          try clear hcz36_0
          try clear hcz36_1
          try clear hfz10_0
          try clear hfz10_1
          try clear hfz15_0
          try clear hfz15_1
          try clear hfz25_0
          try clear hfz25_1
          try clear hfz30_0
          try clear hfz30_1
          try clear hfz36_0
          try clear hfz36_1
          try clear hx179_0
          try clear hx179_1
          try clear p1
          try clear p17
          try clear p179
          try clear p2
          try clear p6
          try clear q1
          try clear q17
          try clear q179
          obtain ⟨kq, x8_36, x171001_36, u171001, rfl, HA, HJ36, HO_171001, BK164, BK165, BK170, BK180, HB⟩ := hcut
          cases kq with
          | zero => exact absurd HA.out (by simp [spec_l03Put.j2])
          | succ kj36 =>
           have H := HA.out
           clear HA
           simp only [spec_l03Put.j2] at H
           replace H := Option.bind_eq_some_iff.mp H
           obtain ⟨t188, A470, H⟩ := H
           replace H : (if t188 = true then (spec_l03Put.l0 kj36 l1 t172 x8_36 (wrap64 (x9_1 + 1)) a0_0 l0_1 t166 x171001_36) else ((spec_l01Own.f ((rd_T65 l0_1 x9_1).f0)).bind fun t189 => (if x171001_36.length < 4398046511104 then (spec_l03Put.l0 kj36 l1 t172 x8_36 (wrap64 (x9_1 + 1)) a0_0 l0_1 t166 (x171001_36 ++ [(⟨t189, ((rd_T65 l0_1 x9_1).f1)⟩ : S65)])) else (none)))) = some (r1, r2) := H
           have A47 := am A470
           clear A470
           by_cases c48 : t188 = true
           · subst c48
             have H1 : (spec_l03Put.l0 kj36 l1 t172 x8_36 (wrap64 (x9_1 + 1)) a0_0 l0_1 t166 x171001_36) = some (r1, r2) := by rw [if_pos rfl] at H; exact H
             clear H
             have H := H1
             clear H1
             have H' := am H
             clear H
             have hnb49 := NB180_164.out
             have hnc49 := NB164_180.out
             have hnb50 := NB180_165.out
             have hnc50 := NB165_180.out
             have hnb51 := NB180_170.out
             have hnc51 := NB170_180.out
             have hcz52_0 : wc.cell? ⟨gb180, 0, none⟩ = some (.slice A179_0 ((rd_T65 l0_1 x9_1).f0).length c179_0) := (blk_cell BK180.out 0).trans rfl
             have hcz52_1 : wc.cell? ⟨gb180, 1, none⟩ = some (.int .i64 ((rd_T65 l0_1 x9_1).f1)) := (blk_cell BK180.out 1).trans rfl
             have hfz52_0 := blk_frozen BK180.out 0
             have hfz52_1 := blk_frozen BK180.out 1
             go_wp2_with (((with_reducible refine gate_callee (f := 68) rfl ?_); refine goesL_ (some 56) rfl rfl Try.func68 (by kernel_rfl) rfl #[.slice A179_0 ((rd_T65 l0_1 x9_1).f0).length c179_0, .slice A1 l1.length c1] rfl (by (try simp only [List.map_toArray, List.map_cons, List.map_nil]); rfl) ?_; (with_reducible refine (spec_l01Same.calls kj36 _ _ ((rd_T65 l0_1 x9_1).f0) _ _ l1 true _ ?side1 ?side2 ?side3 ?side4 A47.out).mono ?_); (case side1 => repeat (exact (Kd.C_below HR179_0.out HB.out))); (case side2 => exact HC179_0.out); (case side3 => repeat (exact (Kd.C_below HR1.out HB.out))); (case side4 => exact HC1.out); rintro e w' ⟨rfl, ⟨nd, rfl⟩⟩; refine ⟨_, rfl, ?_⟩))
             go_roundg kj36
             case measure => have := HK1.out; have := HJ21.out; have := HJ36.out; omega
             case rel => exact ⟨(x8_36), (wrap64 (x9_1 + 1)), (x171001_36), (u171001), (by rfl), (by rfl), H', ⟨by have := HK1.out; have := HJ21.out; have := HJ36.out; omega⟩, ⟨by (with_reducible repeat (apply Kd.S_drewN)); exact Kd.S_mono HO_171001.out (fun _ hk => trivial)⟩, ⟨by (with_reducible repeat (refine blk_drewN ?_ _)); exact BK164.out⟩, ⟨by (with_reducible repeat (refine blk_drewN ?_ _)); exact BK165.out⟩, ⟨by (with_reducible repeat (refine blk_drewN ?_ _)); exact BK170.out⟩, ⟨by repeat ((with_reducible first | exact HB.out | apply pw_below_drewN))⟩⟩
           · replace c48 := Bool.eq_false_iff.mpr c48
             subst c48
             have H1 : ((spec_l01Own.f ((rd_T65 l0_1 x9_1).f0)).bind fun t189 => (if x171001_36.length < 4398046511104 then (spec_l03Put.l0 kj36 l1 t172 x8_36 (wrap64 (x9_1 + 1)) a0_0 l0_1 t166 (x171001_36 ++ [(⟨t189, ((rd_T65 l0_1 x9_1).f1)⟩ : S65)])) else (none))) = some (r1, r2) := by rw [if_neg (show ¬ (false = true) by decide)] at H; exact H
             clear H
             have H := H1
             clear H1
             replace H := Option.bind_eq_some_iff.mp H
             obtain ⟨t189, A530, H⟩ := H
             replace H : (if x171001_36.length < 4398046511104 then (spec_l03Put.l0 kj36 l1 t172 x8_36 (wrap64 (x9_1 + 1)) a0_0 l0_1 t166 (x171001_36 ++ [(⟨t189, ((rd_T65 l0_1 x9_1).f1)⟩ : S65)])) else (none)) = some (r1, r2) := H
             have A53 := am A530
             clear A530
             by_cases c54 : x171001_36.length < 4398046511104
             · rw [if_pos c54] at H
               have LMc54 := am c54
               clear c54
               obtain ⟨y192, hy192⟩ : ∃ y_ : List (S65), y_ = (x171001_36 ++ [(⟨t189, ((rd_T65 l0_1 x9_1).f1)⟩ : S65)]) := ⟨_, rfl⟩
               replace H : (spec_l03Put.l0 kj36 l1 t172 x8_36 (wrap64 (x9_1 + 1)) a0_0 l0_1 t166 y192) = some (r1, r2) := by (rw [hy192]; with_reducible exact H)
               have Ny192 := am hy192
               clear hy192
               have H' := am H
               clear H
               have hnb55 := NB180_164.out
               have hnc55 := NB164_180.out
               have hnb56 := NB180_165.out
               have hnc56 := NB165_180.out
               have hnb57 := NB180_170.out
               have hnc57 := NB170_180.out
               have hcz58_0 : wc.cell? ⟨gb180, 0, none⟩ = some (.slice A179_0 ((rd_T65 l0_1 x9_1).f0).length c179_0) := (blk_cell BK180.out 0).trans rfl
               have hcz58_1 : wc.cell? ⟨gb180, 1, none⟩ = some (.int .i64 ((rd_T65 l0_1 x9_1).f1)) := (blk_cell BK180.out 1).trans rfl
               have hfz58_0 := blk_frozen BK180.out 0
               have hfz58_1 := blk_frozen BK180.out 1
               try go_wp2_with (((with_reducible refine gate_callee (f := 68) rfl ?_); refine goesL_ (some 56) rfl rfl Try.func68 (by kernel_rfl) rfl #[.slice A179_0 ((rd_T65 l0_1 x9_1).f0).length c179_0, .slice A1 l1.length c1] rfl (by (try simp only [List.map_toArray, List.map_cons, List.map_nil]); rfl) ?_; (with_reducible refine (spec_l01Same.calls kj36 _ _ ((rd_T65 l0_1 x9_1).f0) _ _ l1 false _ ?side1 ?side2 ?side3 ?side4 A47.out).mono ?_); (case side1 => repeat (exact (Kd.C_below HR179_0.out HB.out))); (case side2 => exact HC179_0.out); (case side3 => repeat (exact (Kd.C_below HR1.out HB.out))); (case side4 => exact HC1.out); rintro e w' ⟨rfl, ⟨nd, rfl⟩⟩; refine ⟨_, rfl, ?_⟩; (try (rw [drewN_self wc]; generalize hq_ : World.drewN wc _ = wc; have n0_ : Aside0 (Kd.S k65 65 wc w.heap.size (fun k_ => k_ ≠ gb180) u171001 x171001_36) := ⟨by rw [← hq_]; exact (by (with_reducible repeat (apply Kd.S_drewN)); exact HO_171001.out)⟩; have n1_ : Aside0 (wc.heap[gb164]? = some (.cells #[.int .i64 a0_0, .slice (some ad179) l0_1.length c0_1] 28 (0, 0))) := ⟨by rw [← hq_]; exact (by (with_reducible repeat (refine blk_drewN ?_ _)); exact BK164.out)⟩; have n2_ : Aside0 (wc.heap[gb165]? = some (.cells #[.int .i64 0, .slice none 0 0] 28 (0, 0))) := ⟨by rw [← hq_]; exact (by (with_reducible repeat (refine blk_drewN ?_ _)); exact BK165.out)⟩; have n3_ : Aside0 (wc.heap[gb170]? = some (.cells #[.int .i64 t166, u171001] 28 (0, 0))) := ⟨by rw [← hq_]; exact (by (with_reducible repeat (refine blk_drewN ?_ _)); exact BK170.out)⟩; have n4_ : Aside0 (wc.heap[gb180]? = some (.cells #[.slice A179_0 ((rd_T65 l0_1 x9_1).f0).length c179_0, .int .i64 ((rd_T65 l0_1 x9_1).f1)] 65 (0, 0))) := ⟨by rw [← hq_]; exact (by (with_reducible repeat (refine blk_drewN ?_ _)); exact BK180.out)⟩; have n5_ : Aside0 (Below w.heap.size w wc) := ⟨by rw [← hq_]; exact (by repeat ((with_reducible first | exact HB.out | apply pw_below_drewN)))⟩; clear HO_171001 BK164 BK165 BK170 BK180 HB hq_; have HO_171001 := n0_; have BK164 := n1_; have BK165 := n2_; have BK170 := n3_; have BK180 := n4_; have HB := n5_; clear n0_ n1_ n2_ n3_ n4_ n5_))))
               have n0_ := am (Kd.S_drew HO_171001.out)
               have n1_ := am (blk_drew BK164.out)
               have n2_ := am (blk_drew BK165.out)
               have n3_ := am (blk_drew BK170.out)
               have n4_ := am (blk_drew BK180.out)
               have n5_ := am (below_drew1 HB.out)
               clear HO_171001
               clear BK164
               clear BK165
               clear BK170
               clear BK180
               clear HB
               have HO_171001 := n0_
               have BK164 := n1_
               have BK165 := n2_
               have BK170 := n3_
               have BK180 := n4_
               have HB := n5_
               clear n0_ n1_ n2_ n3_ n4_ n5_
               refine start_ (n := 12) (S := fun w' => w'.cell? ⟨gb170, 0, none⟩ = some (.int .i64 t166) ∧ w'.cell? ⟨gb170, 1, none⟩ = some (u171001) ∧ w'.cell? ⟨gb180, 0, none⟩ = some (.slice A179_0 ((rd_T65 l0_1 x9_1).f0).length c179_0) ∧ w'.cell? ⟨gb180, 1, none⟩ = some (.int .i64 ((rd_T65 l0_1 x9_1).f1))) (ds := [11]) (bs 0 12) (by kernel_rfl) rfl rfl ⟨(blk_cell BK170.out 0).trans rfl, (blk_cell BK170.out 1).trans rfl, (blk_cell BK180.out 0).trans rfl, (blk_cell BK180.out 1).trans rfl⟩ (fun hHeld => ?_); refine with_tabW spec_l03Put.tab12 spec_l03Put.bits12 (fun HT_ HW_ => ?_)
               generalize wc.drew = w59 at HO_171001 BK164 BK165 BK170 BK180 HB hHeld ⊢
               refine pure_ (i := 0) (N := some 58) (v := ?_) (a' := ?_) (bs 1 12) rfl rfl (any_of HT_.out (by kernel_rfl)) (fun _ _ _ h => h) (Or.inl ⟨by rfl, ?_⟩) ?_ ?_; rotate_left; intro w'; go_simp; with_reducible rfl; rotate_left; simp only [Act.put, q1, q2, q3, i64_w, i32_w]; rfl
               refine pure_ (i := 2) (N := some 60) (v := ?_) (a' := ?_) (bs 5 12) rfl rfl (any_of HT_.out (by kernel_rfl)) (fun _ _ _ h => h) (Or.inl ⟨by rfl, ?_⟩) ?_ ?_; rotate_left; intro w'; go_simp; with_reducible rfl; rotate_left; simp only [Act.put, q1, q2, q3, i64_w, i32_w]; rfl
               refine pure_ (i := 5) (N := some 63) (v := ?_) (a' := ?_) (bs 37 12) rfl rfl (any_of HT_.out (by kernel_rfl)) (fun _ _ _ h => h) (Or.inl ⟨by rfl, ?_⟩) ?_ ?_; rotate_left; intro w'; go_simp; with_reducible rfl; rotate_left; simp only [Act.put, q1, q2, q3, i64_w, i32_w]; rfl
               refine take_ (i := 1) (N := some 59) (v := ?_) (a' := ?_) (bs 39 12) rfl rfl (take_ofW HT_.out HW_.out (by kernel_rfl)) (fun _ _ _ h => h) (Or.inl ⟨by rfl, ?_⟩) hHeld ?_ ?_; rotate_left; rintro w' ⟨s0, s1, s2, s3⟩; go_simp; with_reducible rfl; rotate_left; simp only [Act.put, q1, q2, q3, i64_w, i32_w]; rfl
               refine take_ (i := 3) (N := some 61) (v := ?_) (a' := ?_) (bs 47 12) rfl rfl (take_ofW HT_.out HW_.out (by kernel_rfl)) (fun _ _ _ h => h) (Or.inl ⟨by rfl, ?_⟩) hHeld ?_ ?_; rotate_left; rintro w' ⟨s0, s1, s2, s3⟩; go_simp; with_reducible rfl; rotate_left; simp only [Act.put, q1, q2, q3, i64_w, i32_w]; rfl
               refine take_ (i := 6) (N := some 64) (v := ?_) (a' := ?_) (bs 111 12) rfl rfl (take_ofW HT_.out HW_.out (by kernel_rfl)) (fun _ _ _ h => h) (Or.inl ⟨by rfl, ?_⟩) hHeld ?_ ?_; rotate_left; rintro w' ⟨s0, s1, s2, s3⟩; go_simp; with_reducible rfl; rotate_left; simp only [Act.put, q1, q2, q3, i64_w, i32_w]; rfl
               refine one_ (i := 4) (N := some 62) (bs 127 12) rfl rfl (one_of HT_.out (by kernel_rfl)) (by decide) (fun K hK => ?_)
               refine goes_ Try.func50 (by kernel_rfl) rfl #[.slice A179_0 ((rd_T65 l0_1 x9_1).f0).length c179_0] (by rfl) rfl rfl (by (try simp only [List.map_toArray, List.map_cons, List.map_nil]); rfl) ?_
               with_reducible refine (spec_l01Own.calls _ _ ((rd_T65 l0_1 x9_1).f0) t189 _ ?side1 ?side2 A53.out).mono ?_
               (case side1 => repeat (exact (Kd.C_below HR179_0.out HB.out)))
               (case side2 => exact HC179_0.out)
               rintro e w60 ⟨v190, rfl, ho0, hb⟩
               refine ⟨_, rfl, ?_⟩
               have n0_ := am (Kd.S_elder' (by (with_reducible repeat (apply Kd.S_drew)); exact HO_171001.out) (Kd.R_base ho0) hb)
               have n1_ := am (Kd.R_lower ho0 (below_size (by repeat ((with_reducible exact HB.out)))))
               have n2_ := am (blk_below (g := gb164) (o := .cells #[.int .i64 a0_0, .slice (some ad179) l0_1.length c0_1] 28 (0, 0)) (by exact BK164.out) hb)
               have n3_ := am (blk_below (g := gb165) (o := .cells #[.int .i64 0, .slice none 0 0] 28 (0, 0)) (by exact BK165.out) hb)
               have n4_ := am (blk_below (g := gb170) (o := .cells #[.int .i64 t166, u171001] 28 (0, 0)) (by exact BK170.out) hb)
               have n5_ := am (blk_below (g := gb180) (o := .cells #[.slice A179_0 ((rd_T65 l0_1 x9_1).f0).length c179_0, .int .i64 ((rd_T65 l0_1 x9_1).f1)] 65 (0, 0)) (by exact BK180.out) hb)
               have n6_ := am (below_step (by repeat ((with_reducible exact HB.out))) hb)
               clear HO_171001
               clear BK164
               clear BK165
               clear BK170
               clear BK180
               clear HB
               have HO_171001 := n0_
               have HO191 := n1_
               have BK164 := n2_
               have BK165 := n3_
               have BK170 := n4_
               have BK180 := n5_
               have HB := n6_
               clear n0_ n1_ n2_ n3_ n4_ n5_ n6_
               (try clear hb)
               (try clear hb2)
               (try clear hk)
               (try clear hi)
               (try clear ho0)
               obtain ⟨Ao61, co61, eo61⟩ := Kd.R_slice HO191.out
               (subst eo61)
               refine hK.out _ _ ⟨(blk_cell BK170.out 0).trans rfl, (blk_cell BK170.out 1).trans rfl, (blk_cell BK180.out 0).trans rfl, (blk_cell BK180.out 1).trans rfl⟩ (fun hHeld => ?_)
               clear hK K
               refine norm_ (a' := ?_) ?_ ?_; rotate_left; show Act.put _ (some 62) _ = _; simp only [Act.put, q1, q2, q3, i64_w, i32_w]; rfl
               refine pure_ (i := 7) (N := some 65) (v := ?_) (a' := ?_) (bs 255 12) rfl rfl (any_of HT_.out (by kernel_rfl)) (fun _ _ _ h => h) (Or.inl ⟨by rfl, ?_⟩) ?_ ?_; rotate_left; intro w'; go_simp; with_reducible rfl; rotate_left; simp only [Act.put, q1, q2, q3, i64_w, i32_w]; rfl
               refine one_ (i := 8) (N := some 66) (bs 511 12) rfl rfl (one_of HT_.out (by kernel_rfl)) (by decide) (fun K hK => ?_)
               refine value_ (w1 := ?_) (v := ?_) (by rfl) rfl ?_ ?_
               rotate_left 2
               · go_simp
                 constructor
                 · rfl
                 · rfl
               refine hK.out _ _ ⟨(blk_cell (blk_alloc BK170.out _) 0).trans rfl, (blk_cell (blk_alloc BK170.out _) 1).trans rfl, (blk_cell (blk_alloc BK180.out _) 0).trans rfl, (blk_cell (blk_alloc BK180.out _) 1).trans rfl⟩ (fun hHeld => ?_)
               clear hK K
               refine norm_ (a' := ?_) ?_ ?_; rotate_left; show Act.put _ (some 66) _ = _; simp only [Act.put, q1, q2, q3, i64_w, i32_w]; rfl
               refine one_ (i := 9) (N := some 67) (bs 1023 12) rfl rfl (one_of HT_.out (by kernel_rfl)) (by decide) (fun K hK => ?_)
               refine Kd.S_append_step k65 (w0 := w) w.heap.size (by rfl) (.tmp 59) (.tmp 66) 26 65 (.agg #[(.slice none 0 0), (.int .i64 0)]) 32 rfl Try.underlying26 info65 rfl (by decide) (by omega) u171001 x171001_36 (⟨t189, ((rd_T65 l0_1 x9_1).f1)⟩ : S65) [.slice Ao61 t189.length co61, .int .i64 ((rd_T65 l0_1 x9_1).f1)] (fun k_ => k_ ≠ gb180) (fun k_ => some k_ = (.slice Ao61 t189.length co61 : Value).ownBlock) rfl rfl ?aP (fun k_ hk_ => ((Kd.R_mono (ok' := fun k_ => ((fun k_ => k_ ≠ gb180)) k_ ∧ some k_ ≠ (u171001 : Value).ownBlock) (Kd.R_types (Kd.R_apart' (HO191.out) (Kd.S_typed HO_171001.out) (by decide)) BK180.out (by decide)) (fun k_ hk => ⟨hk.2, hk.1.2⟩))).1 k_ hk_.symm) ?aF ?aO ?aB ?aS ?aL ?_
               (case aP => exact k65_mkM _ _ _ (⟨t189, ((rd_T65 l0_1 x9_1).f1)⟩ : S65) (Kd.R_mono (Kd.R_tight rfl (Kd.R_mono (ok' := fun k_ => ((fun k_ => k_ ≠ gb180)) k_ ∧ some k_ ≠ (u171001 : Value).ownBlock) (Kd.R_types (Kd.R_apart' (HO191.out) (Kd.S_typed HO_171001.out) (by decide)) BK180.out (by decide)) (fun k_ hk => ⟨hk.2, hk.1.2⟩))) (fun _ h_ => h_)))
               (case aB => exact (by repeat ((with_reducible exact HB.out))))
               (case aF => exact (fun k_ hk => Kd.freshB (g := gb180) (o := .cells #[.slice A179_0 ((rd_T65 l0_1 x9_1).f0).length c179_0, .int .i64 ((rd_T65 l0_1 x9_1).f1)] 65 (0, 0)) (by exact BK180.out) k_ hk))
               (case aO => exact (by (with_reducible repeat (apply Kd.S_drew)); exact Kd.S_mono HO_171001.out (fun k_ hk => ⟨hk.1, fun e_ => hk.2 e_⟩)))
               (case aS => exact (below_size (by repeat ((with_reducible exact HB.out)))))
               (case aL => have := LMc54.out; omega)
               intro v193 w62 ho hb hg hat
               rw [← Ny192.out] at ho
               have n0_ := am (blk_grown (g := gb164) (o := .cells #[.int .i64 a0_0, .slice (some ad179) l0_1.length c0_1] 28 (0, 0)) (by exact BK164.out) hg (Kd.S_ne HO_171001.out BK164.out (by decide)))
               have n1_ := am (blk_grown (g := gb165) (o := .cells #[.int .i64 0, .slice none 0 0] 28 (0, 0)) (by exact BK165.out) hg (Kd.S_ne HO_171001.out BK165.out (by decide)))
               have n2_ := am (blk_grown (g := gb170) (o := .cells #[.int .i64 t166, u171001] 28 (0, 0)) (by exact BK170.out) hg (Kd.S_ne HO_171001.out BK170.out (by decide)))
               have n3_ := am (blk_grown (g := gb180) (o := .cells #[.slice A179_0 ((rd_T65 l0_1 x9_1).f0).length c179_0, .int .i64 ((rd_T65 l0_1 x9_1).f1)] 65 (0, 0)) (by exact BK180.out) hg (Kd.S_away HO_171001.out (fun _ hk => hk.1)))
               have n4_ := am (hb)
               have n5_ := am (ho)
               clear BK164
               clear BK165
               clear BK170
               clear BK180
               clear HB
               clear HO_171001
               clear HO191
               have BK164 := n0_
               have BK165 := n1_
               have BK170 := n2_
               have BK180 := n3_
               have HB := n4_
               have HO194 := n5_
               clear n0_ n1_ n2_ n3_ n4_ n5_
               clear ho hb hg hat
               obtain ⟨Ao63, co63, eo63⟩ := Kd.S_slice HO194.out
               (subst eo63)
               refine hK.out _ _ ⟨(blk_cell BK170.out 0).trans rfl, (blk_cell BK170.out 1).trans rfl, (blk_cell BK180.out 0).trans rfl, (blk_cell BK180.out 1).trans rfl⟩ (fun hHeld => ?_)
               clear hK K
               refine norm_ (a' := ?_) ?_ ?_; rotate_left; show Act.put _ (some 67) _ = _; simp only [Act.put, q1, q2, q3, i64_w, i32_w]; rfl
               refine pure_ (i := 10) (N := some 68) (v := ?_) (a' := ?_) (bs 2047 12) rfl rfl (any_of HT_.out (by kernel_rfl)) (fun _ _ _ h => h) (Or.inl ⟨by rfl, ?_⟩) ?_ ?_; rotate_left; intro w'; go_simp; with_reducible rfl; rotate_left; simp only [Act.put, q1, q2, q3, i64_w, i32_w]; rfl
               refine last_ (i := 11) (N := none) (bs 4095 12) rfl rfl (one_of HT_.out (by kernel_rfl)) (by decide) (fun K hK => ?_)
               have hs64 : w62.cell? ⟨gb170, 1, none⟩ = some (u171001) := (blk_cell BK170.out 1).trans rfl
               have hfs64 := blk_frozen BK170.out 1
               have hns64_0 := NB164_170.out
               have hns64_1 := NB165_170.out
               have hns64_3 := NB180_170.out
               have hms64_0 := NB170_164.out
               have hms64_1 := NB170_165.out
               have hms64_3 := NB170_180.out
               refine skip_ (w1 := ?_) (by rfl) rfl ?_ ?_
               rotate_left
               · go_simp
                 rfl
               refine hK.out _ _ ?_
               clear hK K
               refine done_ (done_of HT_.out (by kernel_rfl)) ?_
               try go_wp2
               go_roundg kj36
               case measure => have := HK1.out; have := HJ21.out; have := HJ36.out; omega
               case rel => exact ⟨(x8_36), (wrap64 (x9_1 + 1)), (y192), (.slice Ao63 y192.length co63), (by rfl), (by rfl), H', ⟨by have := HK1.out; have := HJ21.out; have := HJ36.out; omega⟩, ⟨by (with_reducible repeat (apply Kd.S_drew)); exact Kd.S_mono (Kd.S_far (p := ⟨gb170, 1, none⟩) (Kd.S_types HO194.out BK170.out (by decide)) (fun _ hk => hk.2) (.slice Ao63 y192.length co63)) (fun _ hk => trivial)⟩, ⟨by (with_reducible repeat (refine blk_drew ?_)); refine blk_far ?_ NB164_170.out _; (with_reducible repeat (refine blk_drew ?_)); exact BK164.out⟩, ⟨by (with_reducible repeat (refine blk_drew ?_)); refine blk_far ?_ NB165_170.out _; (with_reducible repeat (refine blk_drew ?_)); exact BK165.out⟩, ⟨by (with_reducible repeat (refine blk_drew ?_)); refine blk_put (cs := #[.int .i64 t166, u171001]) ?_ 1 _ rfl; (with_reducible repeat (refine blk_drew ?_)); exact BK170.out⟩, ⟨by repeat ((with_reducible first | exact HB.out | refine below_set ?_ GE170.out))⟩⟩
             · rw [if_neg c54] at H
               exact absurd H (by simp)
     · rw [if_neg c21] at H
       exact absurd H (by simp)
   · rw [if_neg c20] at H
     have c20b0 : decide (x9_1 < (l0_1.length : Int)) = false := decide_eq_false c20
     clear c20
     by_cases c65 : x8_1 = true
     · subst c65
       have H1 : (some (t166, x171001_1)) = some (r1, r2) := by rw [if_pos rfl] at H; exact H
       clear H
       have H := H1
       clear H1
       simp only [Option.some.injEq, Prod.mk.injEq] at H
       obtain ⟨rfl, rfl⟩ := H
       have hnb66 := NB164_165.out
       have hnc66 := NB165_164.out
       have hnb67 := NB164_170.out
       have hnc67 := NB170_164.out
       have hcz68_0 : wr.cell? ⟨gb164, 0, none⟩ = some (.int .i64 a0_0) := (blk_cell BK164.out 0).trans rfl
       have hcz68_1 : wr.cell? ⟨gb164, 1, none⟩ = some (.slice A0_1 l0_1.length c0_1) := (blk_cell BK164.out 1).trans rfl
       have hfz68_0 := blk_frozen BK164.out 0
       have hfz68_1 := blk_frozen BK164.out 1
       have hnb69 := NB170_165.out
       have hnc69 := NB165_170.out
       have hcz70_0 : wr.cell? ⟨gb170, 0, none⟩ = some (.int .i64 t166) := (blk_cell BK170.out 0).trans rfl
       have hcz70_1 : wr.cell? ⟨gb170, 1, none⟩ = some (u171001) := (blk_cell BK170.out 1).trans rfl
       have hfz70_0 := blk_frozen BK170.out 0
       have hfz70_1 := blk_frozen BK170.out 1
       have hcz71_0 : wr.cell? ⟨gb165, 0, none⟩ = some (.int .i64 0) := (blk_cell BK165.out 0).trans rfl
       have hcz71_1 : wr.cell? ⟨gb165, 1, none⟩ = some (.slice none 0 0) := (blk_cell BK165.out 1).trans rfl
       have hfz71_0 := blk_frozen BK165.out 0
       have hfz71_1 := blk_frozen BK165.out 1
       obtain ⟨Ao72, co72, eo72⟩ := Kd.S_slice HO_171001.out
       subst eo72
       go_wp2
       refine bodyPost_ret (results_cell_row rfl _ _ gb165 28 #[.int .i64 t166, .slice Ao72 x171001_1.length co72] (0, 0) _ rfl (by (with_reducible repeat (refine blk_drew ?_)); refine blk_put (cs := #[.int .i64 t166, .slice none 0 0]) ?_ 1 _ rfl; (with_reducible repeat (refine blk_drew ?_)); refine blk_put (cs := #[.int .i64 0, .slice none 0 0]) ?_ 0 _ rfl; (with_reducible repeat (refine blk_drew ?_)); exact BK165.out) Try.underlying28 rfl (by kernel_rfl)) rfl ?_
       exact ⟨_, by rfl, by (with_reducible repeat (apply Kd.S_drew)); exact Kd.S_mono (Kd.S_far (p := ⟨gb165, 1, none⟩) (Kd.S_far (p := ⟨gb165, 0, none⟩) (Kd.S_types HO_171001.out BK165.out (by decide)) (fun _ hk => hk.2) (.int .i64 t166)) (fun _ hk => hk.2) (.slice Ao72 x171001_1.length co72)) (fun _ hk => trivial), by repeat ((with_reducible first | exact HB.out | refine below_set ?_ GE165.out))⟩
     · replace c65 := Bool.eq_false_iff.mpr c65
       subst c65
       have H1 : ((spec_l01Own.f l1).bind fun t173 => (if x171001_1.length < 4398046511104 then (some (t166, (x171001_1 ++ [(⟨t173, t172⟩ : S65)]))) else (none))) = some (r1, r2) := by rw [if_neg (show ¬ (false = true) by decide)] at H; exact H
       clear H
       have H := H1
       clear H1
       replace H := Option.bind_eq_some_iff.mp H
       obtain ⟨t173, A730, H⟩ := H
       replace H : (if x171001_1.length < 4398046511104 then (some (t166, (x171001_1 ++ [(⟨t173, t172⟩ : S65)]))) else (none)) = some (r1, r2) := H
       have A73 := am A730
       clear A730
       by_cases c74 : x171001_1.length < 4398046511104
       · rw [if_pos c74] at H
         have LMc74 := am c74
         clear c74
         obtain ⟨y176, hy176⟩ : ∃ y_ : List (S65), y_ = (x171001_1 ++ [(⟨t173, t172⟩ : S65)]) := ⟨_, rfl⟩
         replace H : (some (t166, y176)) = some (r1, r2) := by (rw [hy176]; with_reducible exact H)
         have Ny176 := am hy176
         clear hy176
         simp only [Option.some.injEq, Prod.mk.injEq] at H
         obtain ⟨rfl, rfl⟩ := H
         have hnb75 := NB164_165.out
         have hnc75 := NB165_164.out
         have hnb76 := NB164_170.out
         have hnc76 := NB170_164.out
         have hcz77_0 : wr.cell? ⟨gb164, 0, none⟩ = some (.int .i64 a0_0) := (blk_cell BK164.out 0).trans rfl
         have hcz77_1 : wr.cell? ⟨gb164, 1, none⟩ = some (.slice A0_1 l0_1.length c0_1) := (blk_cell BK164.out 1).trans rfl
         have hfz77_0 := blk_frozen BK164.out 0
         have hfz77_1 := blk_frozen BK164.out 1
         try go_wp2
         have n0_ := am (Kd.S_drew HO_171001.out)
         have n1_ := am (blk_drew BK164.out)
         have n2_ := am (blk_drew BK165.out)
         have n3_ := am (blk_drew BK170.out)
         have n4_ := am (below_drew1 HB.out)
         clear HO_171001
         clear BK164
         clear BK165
         clear BK170
         clear HB
         have HO_171001 := n0_
         have BK164 := n1_
         have BK165 := n2_
         have BK170 := n3_
         have HB := n4_
         clear n0_ n1_ n2_ n3_ n4_
         refine start_ (n := 10) (S := fun w' => w'.cell? ⟨gb170, 0, none⟩ = some (.int .i64 t166) ∧ w'.cell? ⟨gb170, 1, none⟩ = some (u171001)) (ds := [9]) (bs 0 10) (by kernel_rfl) rfl rfl ⟨(blk_cell BK170.out 0).trans rfl, (blk_cell BK170.out 1).trans rfl⟩ (fun hHeld => ?_); refine with_tabW spec_l03Put.tab14 spec_l03Put.bits14 (fun HT_ HW_ => ?_)
         generalize wr.drew = w78 at HO_171001 BK164 BK165 BK170 HB hHeld ⊢
         refine pure_ (i := 0) (N := some 71) (v := ?_) (a' := ?_) (bs 1 10) rfl rfl (any_of HT_.out (by kernel_rfl)) (fun _ _ _ h => h) (Or.inl ⟨by rfl, ?_⟩) ?_ ?_; rotate_left; intro w'; go_simp; with_reducible rfl; rotate_left; simp only [Act.put, q1, q2, q3, i64_w, i32_w]; rfl
         refine pure_ (i := 2) (N := some 73) (v := ?_) (a' := ?_) (bs 5 10) rfl rfl (any_of HT_.out (by kernel_rfl)) (fun _ _ _ h => h) (Or.inl ⟨by rfl, ?_⟩) ?_ ?_; rotate_left; intro w'; go_simp; with_reducible rfl; rotate_left; simp only [Act.put, q1, q2, q3, i64_w, i32_w]; rfl
         refine pure_ (i := 4) (N := some 75) (v := ?_) (a' := ?_) (bs 21 10) rfl rfl (any_of HT_.out (by kernel_rfl)) (fun _ _ _ h => h) (Or.inl ⟨by rfl, ?_⟩) ?_ ?_; rotate_left; intro w'; go_simp; with_reducible rfl; rotate_left; simp only [Act.put, q1, q2, q3, i64_w, i32_w]; rfl
         refine take_ (i := 1) (N := some 72) (v := ?_) (a' := ?_) (bs 23 10) rfl rfl (take_ofW HT_.out HW_.out (by kernel_rfl)) (fun _ _ _ h => h) (Or.inl ⟨by rfl, ?_⟩) hHeld ?_ ?_; rotate_left; rintro w' ⟨s0, s1⟩; go_simp; with_reducible rfl; rotate_left; simp only [Act.put, q1, q2, q3, i64_w, i32_w]; rfl
         refine one_ (i := 3) (N := some 74) (bs 31 10) rfl rfl (one_of HT_.out (by kernel_rfl)) (by decide) (fun K hK => ?_)
         refine goes_ Try.func50 (by kernel_rfl) rfl #[.slice A1 l1.length c1] (by rfl) rfl rfl (by (try simp only [List.map_toArray, List.map_cons, List.map_nil]); rfl) ?_
         with_reducible refine (spec_l01Own.calls _ _ l1 t173 _ ?side1 ?side2 A73.out).mono ?_
         (case side1 => repeat (exact (Kd.C_below HR1.out HB.out)))
         (case side2 => exact HC1.out)
         rintro e w79 ⟨v174, rfl, ho0, hb⟩
         refine ⟨_, rfl, ?_⟩
         have n0_ := am (Kd.S_elder' (by (with_reducible repeat (apply Kd.S_drew)); exact HO_171001.out) (Kd.R_base ho0) hb)
         have n1_ := am (Kd.R_lower ho0 (below_size (by repeat ((with_reducible exact HB.out)))))
         have n2_ := am (blk_below (g := gb164) (o := .cells #[.int .i64 a0_0, .slice A0_1 l0_1.length c0_1] 28 (0, 0)) (by exact BK164.out) hb)
         have n3_ := am (blk_below (g := gb165) (o := .cells #[.int .i64 0, .slice none 0 0] 28 (0, 0)) (by exact BK165.out) hb)
         have n4_ := am (blk_below (g := gb170) (o := .cells #[.int .i64 t166, u171001] 28 (0, 0)) (by exact BK170.out) hb)
         have n5_ := am (below_step (by repeat ((with_reducible exact HB.out))) hb)
         clear HO_171001
         clear BK164
         clear BK165
         clear BK170
         clear HB
         have HO_171001 := n0_
         have HO175 := n1_
         have BK164 := n2_
         have BK165 := n3_
         have BK170 := n4_
         have HB := n5_
         clear n0_ n1_ n2_ n3_ n4_ n5_
         (try clear hb)
         (try clear hb2)
         (try clear hk)
         (try clear hi)
         (try clear ho0)
         obtain ⟨Ao80, co80, eo80⟩ := Kd.R_slice HO175.out
         (subst eo80)
         refine hK.out _ _ ⟨(blk_cell BK170.out 0).trans rfl, (blk_cell BK170.out 1).trans rfl⟩ (fun hHeld => ?_)
         clear hK K
         refine norm_ (a' := ?_) ?_ ?_; rotate_left; show Act.put _ (some 74) _ = _; simp only [Act.put, q1, q2, q3, i64_w, i32_w]; rfl
         refine pure_ (i := 5) (N := some 76) (v := ?_) (a' := ?_) (bs 63 10) rfl rfl (any_of HT_.out (by kernel_rfl)) (fun _ _ _ h => h) (Or.inl ⟨by rfl, ?_⟩) ?_ ?_; rotate_left; intro w'; go_simp; with_reducible rfl; rotate_left; simp only [Act.put, q1, q2, q3, i64_w, i32_w]; rfl
         refine one_ (i := 6) (N := some 77) (bs 127 10) rfl rfl (one_of HT_.out (by kernel_rfl)) (by decide) (fun K hK => ?_)
         refine value_ (w1 := ?_) (v := ?_) (by rfl) rfl ?_ ?_
         rotate_left 2
         · go_simp
           constructor
           · rfl
           · rfl
         refine hK.out _ _ ⟨(blk_cell (blk_alloc BK170.out _) 0).trans rfl, (blk_cell (blk_alloc BK170.out _) 1).trans rfl⟩ (fun hHeld => ?_)
         clear hK K
         refine norm_ (a' := ?_) ?_ ?_; rotate_left; show Act.put _ (some 77) _ = _; simp only [Act.put, q1, q2, q3, i64_w, i32_w]; rfl
         refine one_ (i := 7) (N := some 78) (bs 255 10) rfl rfl (one_of HT_.out (by kernel_rfl)) (by decide) (fun K hK => ?_)
         refine Kd.S_append_step k65 (w0 := w) w.heap.size (by rfl) (.tmp 72) (.tmp 77) 26 65 (.agg #[(.slice none 0 0), (.int .i64 0)]) 32 rfl Try.underlying26 info65 rfl (by decide) (by omega) u171001 x171001_1 (⟨t173, t172⟩ : S65) [.slice Ao80 t173.length co80, .int .i64 t172] (fun _ => True) (fun k_ => some k_ = (.slice Ao80 t173.length co80 : Value).ownBlock) rfl rfl ?aP (fun k_ hk_ => ((Kd.R_mono (ok' := fun k_ => ((fun _ => True)) k_ ∧ some k_ ≠ (u171001 : Value).ownBlock) (Kd.R_apart' (HO175.out) (Kd.S_typed HO_171001.out) (by decide)) (fun k_ hk => ⟨trivial, hk.2⟩))).1 k_ hk_.symm) ?aF ?aO ?aB ?aS ?aL ?_
         (case aP => exact k65_mkM _ _ _ (⟨t173, t172⟩ : S65) (Kd.R_mono (Kd.R_tight rfl (Kd.R_mono (ok' := fun k_ => ((fun _ => True)) k_ ∧ some k_ ≠ (u171001 : Value).ownBlock) (Kd.R_apart' (HO175.out) (Kd.S_typed HO_171001.out) (by decide)) (fun k_ hk => ⟨trivial, hk.2⟩))) (fun _ h_ => h_)))
         (case aB => exact (by repeat ((with_reducible exact HB.out))))
         (case aF => exact (fun _ _ => trivial))
         (case aO => exact (by (with_reducible repeat (apply Kd.S_drew)); exact Kd.S_mono HO_171001.out (fun k_ hk => ⟨trivial, fun e_ => hk.2 e_⟩)))
         (case aS => exact (below_size (by repeat ((with_reducible exact HB.out)))))
         (case aL => have := LMc74.out; omega)
         intro v177 w81 ho hb hg hat
         rw [← Ny176.out] at ho
         have n0_ := am (blk_grown (g := gb164) (o := .cells #[.int .i64 a0_0, .slice A0_1 l0_1.length c0_1] 28 (0, 0)) (by exact BK164.out) hg (Kd.S_ne HO_171001.out BK164.out (by decide)))
         have n1_ := am (blk_grown (g := gb165) (o := .cells #[.int .i64 0, .slice none 0 0] 28 (0, 0)) (by exact BK165.out) hg (Kd.S_ne HO_171001.out BK165.out (by decide)))
         have n2_ := am (blk_grown (g := gb170) (o := .cells #[.int .i64 t166, u171001] 28 (0, 0)) (by exact BK170.out) hg (Kd.S_ne HO_171001.out BK170.out (by decide)))
         have n3_ := am (hb)
         have n4_ := am (ho)
         clear BK164
         clear BK165
         clear BK170
         clear HB
         clear HO_171001
         clear HO175
         have BK164 := n0_
         have BK165 := n1_
         have BK170 := n2_
         have HB := n3_
         have HO178 := n4_
         clear n0_ n1_ n2_ n3_ n4_
         clear ho hb hg hat
         obtain ⟨Ao82, co82, eo82⟩ := Kd.S_slice HO178.out
         (subst eo82)
         refine hK.out _ _ ⟨(blk_cell BK170.out 0).trans rfl, (blk_cell BK170.out 1).trans rfl⟩ (fun hHeld => ?_)
         clear hK K
         refine norm_ (a' := ?_) ?_ ?_; rotate_left; show Act.put _ (some 78) _ = _; simp only [Act.put, q1, q2, q3, i64_w, i32_w]; rfl
         refine pure_ (i := 8) (N := some 79) (v := ?_) (a' := ?_) (bs 511 10) rfl rfl (any_of HT_.out (by kernel_rfl)) (fun _ _ _ h => h) (Or.inl ⟨by rfl, ?_⟩) ?_ ?_; rotate_left; intro w'; go_simp; with_reducible rfl; rotate_left; simp only [Act.put, q1, q2, q3, i64_w, i32_w]; rfl
         refine last_ (i := 9) (N := none) (bs 1023 10) rfl rfl (one_of HT_.out (by kernel_rfl)) (by decide) (fun K hK => ?_)
         have hs83 : w81.cell? ⟨gb170, 1, none⟩ = some (u171001) := (blk_cell BK170.out 1).trans rfl
         have hfs83 := blk_frozen BK170.out 1
         have hns83_0 := NB164_170.out
         have hns83_1 := NB165_170.out
         have hms83_0 := NB170_164.out
         have hms83_1 := NB170_165.out
         refine skip_ (w1 := ?_) (by rfl) rfl ?_ ?_
         rotate_left
         · go_simp
           rfl
         refine hK.out _ _ ?_
         clear hK K
         refine done_ (done_of HT_.out (by kernel_rfl)) ?_
         have hnb84 := NB170_165.out
         have hnc84 := NB165_170.out
         have hcz85_0 : w81.cell? ⟨gb170, 0, none⟩ = some (.int .i64 t166) := (blk_cell BK170.out 0).trans rfl
         have hcz85_1 : w81.cell? ⟨gb170, 1, none⟩ = some (u171001) := (blk_cell BK170.out 1).trans rfl
         have hfz85_0 := blk_frozen BK170.out 0
         have hfz85_1 := blk_frozen BK170.out 1
         have hcz86_0 : w81.cell? ⟨gb165, 0, none⟩ = some (.int .i64 0) := (blk_cell BK165.out 0).trans rfl
         have hcz86_1 : w81.cell? ⟨gb165, 1, none⟩ = some (.slice none 0 0) := (blk_cell BK165.out 1).trans rfl
         have hfz86_0 := blk_frozen BK165.out 0
         have hfz86_1 := blk_frozen BK165.out 1
         try go_wp2
         refine bodyPost_ret (results_cell_row rfl _ _ gb165 28 #[.int .i64 t166, .slice Ao82 y176.length co82] (0, 0) _ rfl (by (with_reducible repeat (refine blk_drew ?_)); refine blk_put (cs := #[.int .i64 t166, .slice none 0 0]) ?_ 1 _ rfl; (with_reducible repeat (refine blk_drew ?_)); refine blk_put (cs := #[.int .i64 0, .slice none 0 0]) ?_ 0 _ rfl; (with_reducible repeat (refine blk_drew ?_)); refine blk_far ?_ NB165_170.out _; (with_reducible repeat (refine blk_drew ?_)); exact BK165.out) Try.underlying28 rfl (by kernel_rfl)) rfl ?_
         exact ⟨_, by rfl, by (with_reducible repeat (apply Kd.S_drew)); exact Kd.S_mono (Kd.S_far (p := ⟨gb165, 1, none⟩) (Kd.S_far (p := ⟨gb165, 0, none⟩) (Kd.S_far (p := ⟨gb170, 1, none⟩) (Kd.S_types (Kd.S_types HO178.out BK170.out (by decide)) BK165.out (by decide)) (fun _ hk => hk.1.2) (.slice Ao82 y176.length co82)) (fun _ hk => hk.2) (.int .i64 t166)) (fun _ hk => hk.2) (.slice Ao82 y176.length co82)) (fun _ hk => trivial), by repeat ((with_reducible first | exact HB.out | refine below_set ?_ GE165.out | refine below_set ?_ GE170.out))⟩
       · rw [if_neg c74] at H
         exact absurd H (by simp)
end Go.Proofs.Ytgcgeoglhebonaa.P
end
section
namespace Go.Proofs.Ytgcgeoglhebonaa.P
open Go.RowKit Go.Proofs.YtgcgeoglhebonaaW.PrintWords Go.Proofs.YtgcgeoglhebonaaW.PrintLast Go.Proofs.YtgcgeoglhebonaaW.PrintMore
attribute [local go_sem] max2_int min2_int max_two min_two max_three min_three max_four min_four   -- for this text's walks alone
set_option linter.unusedVariables false
set_option linter.unusedSimpArgs false
def spec_l01Join.l0 : Nat → List Int → List Int → List Int → Int → Option (List Int)
 | 0, _, _, _, _ => none
 | k + 1, x0, x1, x5, x6 => if x6 < (x1.length : Int) then (if 0 ≤ x6 then (if x5.length < 17592186044416 then (spec_l01Join.l0 k x0 x1 (x5 ++ [wrap64 ((rd x1 x6) + (wrap64 ((x0.length : Int) / 2)))]) (wrap64 (x6 + 1))) else (none)) else (none)) else (some x5)
def spec_l01Join.f (k : Nat) (l0 : List Int) (l1 : List Int) : Option (List Int) := (spec_l01Own.f l0).bind fun t195 => (spec_l01Join.l0 k l0 l1 t195 0)
theorem spec_l01Join.calls (k : Nat) (A0 : Option Addr) (c0 : Nat) (l0 : List Int) (A1 : Option Addr) (c1 : Nat) (l1 : List Int) (r : List Int) (w : World) (hr0 : Kd.C (Kd.int .i64) w A0 l0.length l0) (hc0 : l0.length ≤ c0) (hr1 : Kd.C (Kd.int .i64) w A1 l1.length l1) (hc1 : l1.length ≤ c1) (h : spec_l01Join.f k l0 l1 = some r) :
 Calls Try.prog 49 #[.slice A0 l0.length c0, .slice A1 l1.length c1] w fun e w' => ∃ v0_ : Value, e = .returned (v0_) ∧ Kd.R (Kd.int .i64) 2 w' w.heap.size (fun _ => True) v0_ r ∧ Below w.heap.size w w' := by
 have HR0 := am hr0
 have HC0 := am hc0
 clear hr0 hc0
 have HR1 := am hr1
 have HC1 := am hc1
 clear hr1 hc1
 have HB := am (Below.refl w.heap.size w)
 have H : ((spec_l01Own.f l0).bind fun t195 => (spec_l01Join.l0 k l0 l1 t195 0)) = some r := h
 clear h
 replace H := Option.bind_eq_some_iff.mp H
 obtain ⟨t195, A30, H⟩ := H
 replace H : (spec_l01Join.l0 k l0 l1 t195 0) = some r := H
 have A3 := am A30
 clear A30
 have H' := am H
 clear H
 go_enter Try.func49, Try.ntmps49
 go_wp2_with (((with_reducible refine gate_callee (f := 50) rfl ?_); refine goesL_ (some 8) rfl rfl Try.func50 (by kernel_rfl) rfl #[.slice A0 l0.length c0] rfl (by (try simp only [List.map_toArray, List.map_cons, List.map_nil]); rfl) ?_; (with_reducible refine (spec_l01Own.calls _ _ l0 t195 _ ?side1 ?side2 A3.out).mono ?_); (case side1 => repeat (exact HR0.out)); (case side2 => exact HC0.out); rintro e w4 ⟨v196, rfl, ho0, hb⟩; refine ⟨_, rfl, ?_⟩; have n0_ := am (Kd.R_lower ho0 (below_size (by repeat ((with_reducible exact HB.out))))); have n1_ := am (below_step (by repeat ((with_reducible exact HB.out))) hb); clear HB; have HO197 := n0_; have HB := n1_; clear n0_ n1_; (try clear hb); (try clear hb2); (try clear hk); (try clear hi); (try clear ho0)))
 go_loopg [5, 6] k (fun kq v5 v6 w' => ∃ (x5_1 : List Int) (x6_1 : Int), v6 = .int .i64 x6_1 ∧ Aside0 (spec_l01Join.l0 kq l0 l1 x5_1 x6_1 = some r) ∧ Aside0 (kq ≤ k) ∧ Aside0 (Kd.R (Kd.int .i64) 2 w' w.heap.size (fun _ => True) v5 x5_1) ∧ Aside0 (Below w.heap.size w w'))
 case atStart => exact ⟨(t195), (0), (by rfl), H', ⟨Nat.le_refl _⟩, ⟨by (with_reducible repeat (apply Kd.R_drew)); exact HO197.out⟩, ⟨by repeat ((with_reducible exact HB.out))⟩⟩
 case round =>
  clear H'
  try clear c1
  try clear p2
  try clear c4
  obtain ⟨x5_1, x6_1, rfl, HA, HK1, HO_5, HB⟩ := hrel
  cases gk with
  | zero => exact absurd HA.out (by simp [spec_l01Join.l0])
  | succ k1 =>
   have H := HA.out
   clear HA
   simp only [spec_l01Join.l0] at H
   by_cases c5 : x6_1 < (l1.length : Int)
   · rw [if_pos c5] at H
     have c5b0 : decide (x6_1 < (l1.length : Int)) = true := decide_eq_true c5
     clear c5
     by_cases c6 : 0 ≤ x6_1
     · rw [if_pos c6] at H
       have c6b0 : decide (0 ≤ x6_1) = true := decide_eq_true c6
       clear c6
       by_cases c7 : x5_1.length < 17592186044416
       · rw [if_pos c7] at H
         have LMc7 := am c7
         clear c7
         obtain ⟨y199, hy199⟩ : ∃ y_ : List Int, y_ = (x5_1 ++ [wrap64 ((rd l1 x6_1) + (wrap64 ((l0.length : Int) / 2)))]) := ⟨_, rfl⟩
         replace H : (spec_l01Join.l0 k1 l0 l1 y199 (wrap64 (x6_1 + 1))) = some r := by (rw [hy199]; with_reducible exact H)
         have Ny199 := am hy199
         clear hy199
         have H' := am H
         clear H
         have p198 : 0 ≤ (x6_1 : Int) := of_decide_eq_true (by (with_reducible assumption))
         have q198 : x6_1 < (l1.length : Int) := of_decide_eq_true (by (with_reducible assumption))
         obtain ⟨ad198, e198, hx198_0⟩ := Kd.at_int HR1.out x6_1 p198 q198
         cases e198
         replace hx198_0 := (HB.out.cell (World.block_lt_of_cell? w _ hx198_0)).trans hx198_0
         replace p198 := eq_true p198
         replace q198 := eq_true q198
         go_wp2_with (((with_reducible refine gate_builtin (b := .append) (xs := #[.tmp 15, .tmp 24]) rfl ?_); at_builtin; refine Kd.R_append (Kd.int .i64) (w0 := w) w.heap.size rfl (.tmp 15) (.tmp 24) 50 2 (.int .i64 0) 8 rfl Try.underlying50 info2 rfl (by decide) (by omega) u5 x5_1 (wrap64 ((rd l1 x6_1) + (wrap64 ((l0.length : Int) / 2)))) [.int .i64 (wrap64 ((rd l1 x6_1) + (wrap64 ((l0.length : Int) / 2))))] (fun _ => True) (fun _ => False) rfl rfl ?aP (fun _ hk => hk.elim) ?aF ?aO ?aB ?aS ?aL ?_; (case aP => exact rfl); (case aB => exact (by repeat ((with_reducible exact HB.out)))); (case aF => exact (fun _ _ => trivial)); (case aO => exact (by (with_reducible repeat (apply Kd.R_drew)); exact HO_5.out)); (case aS => exact (below_size (by repeat ((with_reducible exact HB.out))))); (case aL => have := LMc7.out; omega); intro v200 w8 ho hb hg hat; rw [← Ny199.out] at ho; have n0_ := am (hb); have n1_ := am (ho); clear HB; clear HO_5; have HB := n0_; have HO201 := n1_; clear n0_ n1_; clear ho hb hg hat))
         go_roundg k1
         case measure => have := HK1.out; omega
         case rel => exact ⟨(y199), (wrap64 (x6_1 + 1)), (by rfl), H', ⟨by have := HK1.out; omega⟩, ⟨by (with_reducible repeat (apply Kd.R_drew)); exact HO201.out⟩, ⟨by repeat ((with_reducible exact HB.out))⟩⟩
       · rw [if_neg c7] at H
         exact absurd H (by simp)
     · rw [if_neg c6] at H
       exact absurd H (by simp)
   · rw [if_neg c5] at H
     have c5b0 : decide (x6_1 < (l1.length : Int)) = false := decide_eq_false c5
     clear c5
     obtain rfl := Option.some.inj H
     go_wp2
     go_ret
     exact ⟨_, by rfl, by (with_reducible repeat (apply Kd.R_drew)); exact HO_5.out, by repeat ((with_reducible exact HB.out))⟩
end Go.Proofs.Ytgcgeoglhebonaa.P
end
