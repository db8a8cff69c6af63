/- Part of the claim. -/
import Derived.Test.YtgcgeoglhebonaaCeM2
import Derived.Shelf.SlicesE.Clone
set_option maxRecDepth 100000
set_option maxHeartbeats 8000000
section
namespace Go.Proofs.Ytgcgeoglhebonaa.P
open Go.RowKit Go.Proofs.YtgcgeoglhebonaaW.PrintWords Go.Proofs.YtgcgeoglhebonaaW.PrintLast Go.Proofs.YtgcgeoglhebonaaW.PrintMore
attribute [local go_sem] max2_int min2_int max_two min_two max_three min_three max_four min_four   -- for this text's walks alone
set_option linter.unusedVariables false
set_option linter.unusedSimpArgs false
mutual
def spec_l03Join.l0 : Nat → Int → Int → List (S65) → Int → List (S65) → Int → List (S65) → Option (Int × (List (S65)) × Bool)
 | 0, _, _, _, _, _, _, _ => none
 | k + 1, x7, x203000, x203001, x204000, x204001, x210000, x210001 => if x7 < (x203001.length : Int) then (spec_l03Join.l1 k x7 0 x203000 x203001 x204000 x204001 x210000 x210001) else (some (x210000, x210001, true))
def spec_l03Join.l1 : Nat → Int → Int → Int → List (S65) → Int → List (S65) → Int → List (S65) → Option (Int × (List (S65)) × Bool)
 | 0, _, _, _, _, _, _, _, _ => none
 | k + 1, x7, x8, x203000, x203001, x204000, x204001, x210000, x210001 => if x8 < (x204001.length : Int) then (if 0 ≤ x7 then (if x7 < (x203001.length : Int) then (if 0 ≤ x8 then (if (wrap64 ((((rd_T65 x203001 x7).f0).length : Int) + (((rd_T65 x204001 x8).f0).length : Int))) > 12 then (some (x210000, x210001, false)) else ((spec_l01Join.f k ((rd_T65 x203001 x7).f0) ((rd_T65 x204001 x8).f0)).bind fun t214 => ((spec_l03Put.f k x210000 x210001 t214 (wrap64 (((rd_T65 x203001 x7).f1) * ((rd_T65 x204001 x8).f1)))).bind fun bt217 => (spec_l03Join.l1 k x7 (wrap64 (x8 + 1)) x203000 x203001 x204000 x204001 bt217.1 bt217.2)))) else (none)) else (none)) else (none)) else (spec_l03Join.l0 k (wrap64 (x7 + 1)) x203000 x203001 x204000 x204001 x210000 x210001)
end
def spec_l03Join.f (k : Nat) (a0_0 : Int) (l0_1 : List (S65)) (a1_0 : Int) (l1_1 : List (S65)) : Option (Int × (List (S65)) × Bool) := (spec_l03Empty.f a0_0).bind fun bt205 => (spec_l03Join.l0 k 0 a0_0 l0_1 a1_0 l1_1 bt205.1 bt205.2)
def spec_l03Join.T8 : Bool × List (List Nat × List Nat) := (true, [([], []), ([0], [0]), ([], []), ([1, 2], [1, 2]), ([3], [3]), ([], []), ([5], [5]), ([], []), ([6, 7], [6, 7]), ([8], [8]), ([], []), ([], []), ([10, 4, 0, 1, 2, 3, 4, 10, 11], [4, 10]), ([11, 9, 12, 0, 1, 2, 3, 4, 5, 6, 7, 8, 9, 10, 11, 12], [9, 11])])
def spec_l03Join.B8 : List Nat := [0, 1, 0, 7, 15, 0, 32, 0, 224, 480, 0, 0, 3103, 8191]
theorem spec_l03Join.tab8 : rtab .any (opsOf Try.f19 8) = spec_l03Join.T8 := by kernel_rfl
theorem spec_l03Join.bits8 : waitsOk spec_l03Join.T8.2 spec_l03Join.B8 = true := by kernel_rfl
def spec_l03Join.T11 : Bool × List (List Nat × List Nat) := (true, [([], []), ([], []), ([1], [1]), ([], []), ([3], [3]), ([2, 4], [2, 4]), ([], []), ([6], [6]), ([], []), ([8], [8]), ([7, 9], [7, 9]), ([0, 5, 10, 5], [0, 5, 10]), ([11, 11, 0, 1, 2, 3, 4, 5, 6, 7, 8, 9, 10, 11], [11])])
def spec_l03Join.B11 : List Nat := [0, 0, 2, 0, 8, 30, 0, 64, 0, 256, 960, 2047, 4095]
theorem spec_l03Join.tab11 : rtab .any (opsOf Try.f19 11) = spec_l03Join.T11 := by kernel_rfl
theorem spec_l03Join.bits11 : waitsOk spec_l03Join.T11.2 spec_l03Join.B11 = true := by kernel_rfl
theorem spec_l03Join.calls (k : Nat) (a0_0 : Int) (A0_1 : Option Addr) (c0_1 : Nat) (l0_1 : List (S65)) (a1_0 : Int) (A1_1 : Option Addr) (c1_1 : Nat) (l1_1 : List (S65)) (r1 : Int) (r2 : List (S65)) (r3 : Bool) (w : World) (hr0_1 : Kd.C k65 w A0_1 l0_1.length l0_1) (hc0_1 : l0_1.length ≤ c0_1) (hr1_1 : Kd.C k65 w A1_1 l1_1.length l1_1) (hc1_1 : l1_1.length ≤ c1_1) (h : spec_l03Join.f k a0_0 l0_1 a1_0 l1_1 = some (r1, r2, r3)) :
 Calls Try.prog 19 #[.agg #[.int .i64 a0_0, .slice A0_1 l0_1.length c0_1], .agg #[.int .i64 a1_0, .slice A1_1 l1_1.length c1_1]] w fun e w' => ∃ v1_ : Value, e = .returned (.tuple #[.agg #[.int .i64 r1, v1_], .bool r3]) ∧ Kd.S k65 65 w' w.heap.size (fun _ => True) v1_ r2 ∧ Below w.heap.size w w' := by
 have hu28 := Try.underlying28
 have hu65 := Try.underlying65
 have HR0_1 := am hr0_1
 have HC0_1 := am hc0_1
 clear hr0_1 hc0_1
 have HR1_1 := am hr1_1
 have HC1_1 := am hc1_1
 clear hr1_1 hc1_1
 have HB := am (Below.refl w.heap.size w)
 have H : ((spec_l03Empty.f a0_0).bind fun bt205 => (spec_l03Join.l0 k 0 a0_0 l0_1 a1_0 l1_1 bt205.1 bt205.2)) = some (r1, r2, r3) := h
 clear h
 replace H := Option.bind_eq_some_iff.mp H
 obtain ⟨⟨t205, t206⟩, A30, H⟩ := H
 replace H : (spec_l03Join.l0 k 0 a0_0 l0_1 a1_0 l1_1 t205 t206) = some (r1, r2, r3) := H
 have A3 := am A30
 clear A30
 have H' := am H
 clear H
 go_enter Try.func19, Try.ntmps19
 go_wp2_with (first | ((with_reducible refine gate_dst (N := 2) rfl ?_); refine box_event ?hg (N := 2) ?hd (cs := #[.int .i64 a0_0, .slice A0_1 l0_1.length c0_1]) (t := 28) ?hr ?_; (case hd => rfl); (case hg => rfl); (case hr => (go_simp; done)); intro gb202 hg w4 hbox hb; have n0_ := am (below_step (by repeat ((with_reducible exact HB.out))) hb); have n1_ := am (hbox); have n2_ := am ((by rw [hg]; exact (below_size (by repeat ((with_reducible exact HB.out)))) : w.heap.size ≤ gb202)); have n3_ := am ((by rw [hg]; exact (below_size (by repeat ((with_reducible exact HB.out)))) : w.heap.size ≤ gb202)); clear HB; have HB := n0_; have BK202 := n1_; have GW202 := n2_; have GE202 := n3_; clear n0_ n1_ n2_ n3_; clear hb hbox hg) | ((with_reducible refine gate_dst (N := 3) rfl ?_); refine box_event ?hg (N := 3) ?hd (cs := #[.int .i64 a1_0, .slice A1_1 l1_1.length c1_1]) (t := 28) ?hr ?_; (case hd => rfl); (case hg => rfl); (case hr => (go_simp; done)); intro gb203 hg w5 hbox hb; have n0_ := am (blk_below (g := gb202) (o := .cells #[.int .i64 a0_0, .slice A0_1 l0_1.length c0_1] 28 (0, 0)) (by exact BK202.out) hb); have n1_ := am (below_step (by repeat ((with_reducible exact HB.out))) hb); have n2_ := am (hbox); have n3_ := am ((by rw [hg]; exact (below_size (by repeat ((with_reducible exact HB.out)))) : w.heap.size ≤ gb203)); have n4_ := am ((by rw [hg]; exact (below_size (by repeat ((with_reducible exact HB.out)))) : w.heap.size ≤ gb203)); have n5_ := am ((by rw [hg]; exact Nat.ne_of_lt (blk_lt (g := gb202) (o := .cells #[.int .i64 a0_0, .slice A0_1 l0_1.length c0_1] 28 (0, 0)) (by exact BK202.out)) : gb202 ≠ gb203)); have n6_ := am ((by rw [hg]; exact Nat.ne_of_gt (blk_lt (g := gb202) (o := .cells #[.int .i64 a0_0, .slice A0_1 l0_1.length c0_1] 28 (0, 0)) (by exact BK202.out)) : gb203 ≠ gb202)); clear BK202; clear HB; have BK202 := n0_; have HB := n1_; have BK203 := n2_; have GW203 := n3_; have GE203 := n4_; have NB202_203 := n5_; have NB203_202 := n6_; clear n0_ n1_ n2_ n3_ n4_ n5_ n6_; clear hb hbox hg) | ((with_reducible refine gate_dst (N := 4) rfl ?_); refine box_event ?hg (N := 4) ?hd (cs := #[.int .i64 0, .slice none 0 0]) (t := 28) ?hr ?_; (case hd => rfl); (case hg => rfl); (case hr => (go_simp; done)); intro gb204 hg w6 hbox hb; have n0_ := am (blk_below (g := gb202) (o := .cells #[.int .i64 a0_0, .slice A0_1 l0_1.length c0_1] 28 (0, 0)) (by exact BK202.out) hb); have n1_ := am (blk_below (g := gb203) (o := .cells #[.int .i64 a1_0, .slice A1_1 l1_1.length c1_1] 28 (0, 0)) (by exact BK203.out) hb); have n2_ := am (below_step (by repeat ((with_reducible exact HB.out))) hb); have n3_ := am (hbox); have n4_ := am ((by rw [hg]; exact (below_size (by repeat ((with_reducible exact HB.out)))) : w.heap.size ≤ gb204)); have n5_ := am ((by rw [hg]; exact (below_size (by repeat ((with_reducible exact HB.out)))) : w.heap.size ≤ gb204)); have n6_ := am ((by rw [hg]; exact Nat.ne_of_lt (blk_lt (g := gb202) (o := .cells #[.int .i64 a0_0, .slice A0_1 l0_1.length c0_1] 28 (0, 0)) (by exact BK202.out)) : gb202 ≠ gb204)); have n7_ := am ((by rw [hg]; exact Nat.ne_of_gt (blk_lt (g := gb202) (o := .cells #[.int .i64 a0_0, .slice A0_1 l0_1.length c0_1] 28 (0, 0)) (by exact BK202.out)) : gb204 ≠ gb202)); have n8_ := am ((by rw [hg]; exact Nat.ne_of_lt (blk_lt (g := gb203) (o := .cells #[.int .i64 a1_0, .slice A1_1 l1_1.length c1_1] 28 (0, 0)) (by exact BK203.out)) : gb203 ≠ gb204)); have n9_ := am ((by rw [hg]; exact Nat.ne_of_gt (blk_lt (g := gb203) (o := .cells #[.int .i64 a1_0, .slice A1_1 l1_1.length c1_1] 28 (0, 0)) (by exact BK203.out)) : gb204 ≠ gb203)); clear BK202; clear BK203; clear HB; have BK202 := n0_; have BK203 := n1_; have HB := n2_; have BK204 := n3_; have GW204 := n4_; have GE204 := n5_; have NB202_204 := n6_; have NB204_202 := n7_; have NB203_204 := n8_; have NB204_203 := n9_; clear n0_ n1_ n2_ n3_ n4_ n5_ n6_ n7_ n8_ n9_; clear hb hbox hg; have hnb7 := NB202_203.out; have hnc7 := NB203_202.out; have hnb8 := NB202_204.out; have hnc8 := NB204_202.out; have hcz9_0 : w6.cell? ⟨gb202, 0, none⟩ = some (.int .i64 a0_0) := (blk_cell BK202.out 0).trans rfl; have hcz9_1 : w6.cell? ⟨gb202, 1, none⟩ = some (.slice A0_1 l0_1.length c0_1) := (blk_cell BK202.out 1).trans rfl; have hfz9_0 := blk_frozen BK202.out 0; have hfz9_1 := blk_frozen BK202.out 1) | ((with_reducible refine gate_callee (f := 34) rfl ?_); refine goesL_ (some 13) rfl rfl Try.func34 (by kernel_rfl) rfl #[.int .i64 a0_0] rfl (by (try simp only [List.map_toArray, List.map_cons, List.map_nil]); rfl) ?_; (with_reducible refine (spec_l03Empty.calls a0_0 t205 t206 _ A3.out).mono ?_); rintro e w10 ⟨v207, rfl, ho0, hb⟩; refine ⟨_, rfl, ?_⟩; have n0_ := am (Kd.S_lower ho0 (below_size (by repeat ((with_reducible exact HB.out))))); have n1_ := am (blk_below (g := gb202) (o := .cells #[.int .i64 a0_0, .slice A0_1 l0_1.length c0_1] 28 (0, 0)) (by exact BK202.out) hb); have n2_ := am (blk_below (g := gb203) (o := .cells #[.int .i64 a1_0, .slice A1_1 l1_1.length c1_1] 28 (0, 0)) (by exact BK203.out) hb); have n3_ := am (blk_below (g := gb204) (o := .cells #[.int .i64 0, .slice none 0 0] 28 (0, 0)) (by exact BK204.out) hb); have n4_ := am (below_step (by repeat ((with_reducible exact HB.out))) hb); clear BK202; clear BK203; clear BK204; clear HB; have HO208 := n0_; have BK202 := n1_; have BK203 := n2_; have BK204 := n3_; have HB := n4_; clear n0_ n1_ n2_ n3_ n4_; (try clear hb); (try clear hb2); (try clear hk); (try clear hi); (try clear ho0)) | ((with_reducible refine gate_dst (N := 6) rfl ?_); refine box_event ?hg (N := 6) ?hd (cs := #[.int .i64 0, .slice none 0 0]) (t := 28) ?hr ?_; (case hd => rfl); (case hg => rfl); (case hr => (go_simp; done)); intro gb209 hg w11 hbox hb; have n0_ := am (Kd.S_below (by (with_reducible repeat (apply Kd.S_drew)); exact HO208.out) hb); have n1_ := am (blk_below (g := gb202) (o := .cells #[.int .i64 a0_0, .slice A0_1 l0_1.length c0_1] 28 (0, 0)) (by exact BK202.out) hb); have n2_ := am (blk_below (g := gb203) (o := .cells #[.int .i64 a1_0, .slice A1_1 l1_1.length c1_1] 28 (0, 0)) (by exact BK203.out) hb); have n3_ := am (blk_below (g := gb204) (o := .cells #[.int .i64 0, .slice none 0 0] 28 (0, 0)) (by exact BK204.out) hb); have n4_ := am (below_step (by repeat ((with_reducible exact HB.out))) hb); have n5_ := am (hbox); have n6_ := am ((by rw [hg]; exact (below_size (by repeat ((with_reducible exact HB.out)))) : w.heap.size ≤ gb209)); have n7_ := am ((by rw [hg]; exact (below_size (by repeat ((with_reducible exact HB.out)))) : w.heap.size ≤ gb209)); have n8_ := am ((by rw [hg]; exact Nat.ne_of_lt (blk_lt (g := gb202) (o := .cells #[.int .i64 a0_0, .slice A0_1 l0_1.length c0_1] 28 (0, 0)) (by exact BK202.out)) : gb202 ≠ gb209)); have n9_ := am ((by rw [hg]; exact Nat.ne_of_gt (blk_lt (g := gb202) (o := .cells #[.int .i64 a0_0, .slice A0_1 l0_1.length c0_1] 28 (0, 0)) (by exact BK202.out)) : gb209 ≠ gb202)); have n10_ := am ((by rw [hg]; exact Nat.ne_of_lt (blk_lt (g := gb203) (o := .cells #[.int .i64 a1_0, .slice A1_1 l1_1.length c1_1] 28 (0, 0)) (by exact BK203.out)) : gb203 ≠ gb209)); have n11_ := am ((by rw [hg]; exact Nat.ne_of_gt (blk_lt (g := gb203) (o := .cells #[.int .i64 a1_0, .slice A1_1 l1_1.length c1_1] 28 (0, 0)) (by exact BK203.out)) : gb209 ≠ gb203)); have n12_ := am ((by rw [hg]; exact Nat.ne_of_lt (blk_lt (g := gb204) (o := .cells #[.int .i64 0, .slice none 0 0] 28 (0, 0)) (by exact BK204.out)) : gb204 ≠ gb209)); have n13_ := am ((by rw [hg]; exact Nat.ne_of_gt (blk_lt (g := gb204) (o := .cells #[.int .i64 0, .slice none 0 0] 28 (0, 0)) (by exact BK204.out)) : gb209 ≠ gb204)); clear HO208; clear BK202; clear BK203; clear BK204; clear HB; have HO208 := n0_; have BK202 := n1_; have BK203 := n2_; have BK204 := n3_; have HB := n4_; have BK209 := n5_; have GW209 := n6_; have GE209 := n7_; have NB202_209 := n8_; have NB209_202 := n9_; have NB203_209 := n10_; have NB209_203 := n11_; have NB204_209 := n12_; have NB209_204 := n13_; clear n0_ n1_ n2_ n3_ n4_ n5_ n6_ n7_ n8_ n9_ n10_ n11_ n12_ n13_; clear hb hbox hg; have hnb12 := NB209_202.out; have hnc12 := NB202_209.out; have hnb13 := NB209_203.out; have hnc13 := NB203_209.out; have hnb14 := NB209_204.out; have hnc14 := NB204_209.out; have hcz15_0 : w11.cell? ⟨gb209, 0, none⟩ = some (.int .i64 0) := (blk_cell BK209.out 0).trans rfl; have hcz15_1 : w11.cell? ⟨gb209, 1, none⟩ = some (.slice none 0 0) := (blk_cell BK209.out 1).trans rfl; have hfz15_0 := blk_frozen BK209.out 0; have hfz15_1 := blk_frozen BK209.out 1; obtain ⟨Ao16, co16, eo16⟩ := Kd.S_slice HO208.out; subst eo16))
 go_loopg [7] k (fun kq v7 w' => ∃ (x7_1 : Int) (x205000_1 : Int) (x210000_1 : Int) (x210001_1 : List (S65)) (u210001 : Value), v7 = .int .i64 x7_1 ∧ Aside0 (spec_l03Join.l0 kq x7_1 a0_0 l0_1 a1_0 l1_1 x210000_1 x210001_1 = some (r1, r2, r3)) ∧ Aside0 (kq ≤ k) ∧ Aside0 (Kd.S k65 65 w' w.heap.size (fun _ => True) u210001 x210001_1) ∧ Aside0 (w'.heap[gb202]? = some (.cells #[.int .i64 a0_0, (.slice A0_1 l0_1.length c0_1)] 28 (0, 0))) ∧ Aside0 (w'.heap[gb203]? = some (.cells #[.int .i64 a1_0, (.slice A1_1 l1_1.length c1_1)] 28 (0, 0))) ∧ Aside0 (w'.heap[gb204]? = some (.cells #[.int .i64 x205000_1, (.slice none 0 0)] 28 (0, 0))) ∧ Aside0 (w'.heap[gb209]? = some (.cells #[.int .i64 x210000_1, u210001] 28 (0, 0))) ∧ Aside0 (Below w.heap.size w w'))
 case atStart => exact ⟨(0), (0), (t205), (t206), (.slice Ao16 t206.length co16), (by rfl), H', ⟨Nat.le_refl _⟩, ⟨by (with_reducible repeat (apply Kd.S_drew)); exact Kd.S_mono (Kd.S_far (p := ⟨gb209, 1, none⟩) (Kd.S_far (p := ⟨gb209, 0, none⟩) (Kd.S_types HO208.out BK209.out (by decide)) (fun _ hk => hk.2) (.int .i64 t205)) (fun _ hk => hk.2) (.slice Ao16 t206.length co16)) (fun _ hk => trivial)⟩, ⟨by (with_reducible repeat (refine blk_drew ?_)); refine blk_far ?_ NB202_209.out _; (with_reducible repeat (refine blk_drew ?_)); refine blk_far ?_ NB202_209.out _; (with_reducible repeat (refine blk_drew ?_)); exact BK202.out⟩, ⟨by (with_reducible repeat (refine blk_drew ?_)); refine blk_far ?_ NB203_209.out _; (with_reducible repeat (refine blk_drew ?_)); refine blk_far ?_ NB203_209.out _; (with_reducible repeat (refine blk_drew ?_)); exact BK203.out⟩, ⟨by (with_reducible repeat (refine blk_drew ?_)); refine blk_far ?_ NB204_209.out _; (with_reducible repeat (refine blk_drew ?_)); refine blk_far ?_ NB204_209.out _; (with_reducible repeat (refine blk_drew ?_)); exact BK204.out⟩, ⟨by (with_reducible repeat (refine blk_drew ?_)); refine blk_put (cs := #[.int .i64 t205, .slice none 0 0]) ?_ 1 _ rfl; (with_reducible repeat (refine blk_drew ?_)); refine blk_put (cs := #[.int .i64 0, .slice none 0 0]) ?_ 0 _ rfl; (with_reducible repeat (refine blk_drew ?_)); exact BK209.out⟩, ⟨by repeat ((with_reducible first | exact HB.out | refine below_set ?_ GE209.out))⟩⟩
 case round =>
  clear H'
  try clear c1
  try clear p2
  try clear c3
  try clear c7
  try clear c8
  try clear c12
  try clear c13
  try clear c14
  try clear hcz15_0
  try clear hcz15_1
  try clear hcz9_0
  try clear hcz9_1
  try clear hfz15_0
  try clear hfz15_1
  try clear hfz9_0
  try clear hfz9_1
  obtain ⟨x7_1, x205000_1, x210000_1, x210001_1, u210001, rfl, HA, HK1, HO_210001, BK202, BK203, BK204, BK209, HB⟩ := hrel
  cases gk with
  | zero => exact absurd HA.out (by simp [spec_l03Join.l0])
  | succ k1 =>
   have H := HA.out
   clear HA
   simp only [spec_l03Join.l0] at H
   by_cases c17 : x7_1 < (l0_1.length : Int)
   · rw [if_pos c17] at H
     have c17b0 : decide (x7_1 < (l0_1.length : Int)) = true := decide_eq_true c17
     clear c17
     have H' := am H
     clear H
     have hnb18 := NB202_203.out
     have hnc18 := NB203_202.out
     have hnb19 := NB202_204.out
     have hnc19 := NB204_202.out
     have hnb20 := NB202_209.out
     have hnc20 := NB209_202.out
     have hcz21_0 : wr.cell? ⟨gb202, 0, none⟩ = some (.int .i64 a0_0) := (blk_cell BK202.out 0).trans rfl
     have hcz21_1 : wr.cell? ⟨gb202, 1, none⟩ = some (.slice A0_1 l0_1.length c0_1) := (blk_cell BK202.out 1).trans rfl
     have hfz21_0 := blk_frozen BK202.out 0
     have hfz21_1 := blk_frozen BK202.out 1
     go_wp2
     go_loopg [8] k1 (fun kq v8 w' => ∃ (x8_2 : Int) (x205000_2 : Int) (x210000_2 : Int) (x210001_2 : List (S65)) (u210001 : Value), v8 = .int .i64 x8_2 ∧ Aside0 (spec_l03Join.l1 kq x7_1 x8_2 a0_0 l0_1 a1_0 l1_1 x210000_2 x210001_2 = some (r1, r2, r3)) ∧ Aside0 (kq ≤ k1) ∧ Aside0 (Kd.S k65 65 w' w.heap.size (fun _ => True) u210001 x210001_2) ∧ Aside0 (w'.heap[gb202]? = some (.cells #[.int .i64 a0_0, (.slice A0_1 l0_1.length c0_1)] 28 (0, 0))) ∧ Aside0 (w'.heap[gb203]? = some (.cells #[.int .i64 a1_0, (.slice A1_1 l1_1.length c1_1)] 28 (0, 0))) ∧ Aside0 (w'.heap[gb204]? = some (.cells #[.int .i64 x205000_2, (.slice none 0 0)] 28 (0, 0))) ∧ Aside0 (w'.heap[gb209]? = some (.cells #[.int .i64 x210000_2, u210001] 28 (0, 0))) ∧ Aside0 (Below w.heap.size w w'))
     case atStart => exact ⟨(0), (x205000_1), (x210000_1), (x210001_1), (u210001), (by rfl), H', ⟨Nat.le_refl _⟩, ⟨by (with_reducible repeat (apply Kd.S_drew)); exact HO_210001.out⟩, ⟨by (with_reducible repeat (refine blk_drew ?_)); exact BK202.out⟩, ⟨by (with_reducible repeat (refine blk_drew ?_)); exact BK203.out⟩, ⟨by (with_reducible repeat (refine blk_drew ?_)); exact BK204.out⟩, ⟨by (with_reducible repeat (refine blk_drew ?_)); exact BK209.out⟩, ⟨by repeat ((with_reducible exact HB.out))⟩⟩
     case round =>
      clear H'
      try clear c1
      try clear c2
      try clear p2
      try clear c3
      try clear c7
      try clear c8
      try clear c12
      try clear c13
      try clear c14
      try clear c17
      try clear c17b0
      try clear c18
      try clear c19
      try clear c20
      try clear hcz15_0
      try clear hcz15_1
      try clear hcz21_0
      try clear hcz21_1
      try clear hcz9_0
      try clear hcz9_1
      try clear hfz15_0
      try clear hfz15_1
      try clear hfz21_0
      try clear hfz21_1
      try clear hfz9_0
      try clear hfz9_1
      try clear p2
      obtain ⟨x8_2, x205000_2, x210000_2, x210001_2, u210001, rfl, HA, HK2, HO_210001, BK202, BK203, BK204, BK209, HB⟩ := hrel
      cases gk with
      | zero => exact absurd HA.out (by simp [spec_l03Join.l1])
      | succ k2 =>
       have H := HA.out
       clear HA
       simp only [spec_l03Join.l1] at H
       by_cases c22 : x8_2 < (l1_1.length : Int)
       · rw [if_pos c22] at H
         have c22b0 : decide (x8_2 < (l1_1.length : Int)) = true := decide_eq_true c22
         clear c22
         by_cases c23 : 0 ≤ x7_1
         · rw [if_pos c23] at H
           have c23b0 : decide (0 ≤ x7_1) = true := decide_eq_true c23
           clear c23
           by_cases c24 : x7_1 < (l0_1.length : Int)
           · rw [if_pos c24] at H
             have c24b0 : decide (x7_1 < (l0_1.length : Int)) = true := decide_eq_true c24
             clear c24
             by_cases c25 : 0 ≤ x8_2
             · rw [if_pos c25] at H
               have c25b0 : decide (0 ≤ x8_2) = true := decide_eq_true c25
               clear c25
               by_cases c26 : (wrap64 ((((rd_T65 l0_1 x7_1).f0).length : Int) + (((rd_T65 l1_1 x8_2).f0).length : Int))) > 12
               · rw [if_pos c26] at H
                 have c26b0 : decide (12 < (wrap64 ((((rd_T65 l0_1 x7_1).f0).length : Int) + (((rd_T65 l1_1 x8_2).f0).length : Int)))) = true := decide_eq_true c26
                 clear c26
                 simp only [Option.some.injEq, Prod.mk.injEq] at H
                 obtain ⟨rfl, rfl, rfl⟩ := H
                 have hnb27 := NB203_202.out
                 have hnc27 := NB202_203.out
                 have hnb28 := NB203_204.out
                 have hnc28 := NB204_203.out
                 have hnb29 := NB203_209.out
                 have hnc29 := NB209_203.out
                 have hcz30_0 : wr.cell? ⟨gb203, 0, none⟩ = some (.int .i64 a1_0) := (blk_cell BK203.out 0).trans rfl
                 have hcz30_1 : wr.cell? ⟨gb203, 1, none⟩ = some (.slice A1_1 l1_1.length c1_1) := (blk_cell BK203.out 1).trans rfl
                 have hfz30_0 := blk_frozen BK203.out 0
                 have hfz30_1 := blk_frozen BK203.out 1
                 try go_wp2
                 have n0_ := am (Kd.S_drew HO_210001.out)
                 have n1_ := am (blk_drew BK202.out)
                 have n2_ := am (blk_drew BK203.out)
                 have n3_ := am (blk_drew BK204.out)
                 have n4_ := am (blk_drew BK209.out)
                 have n5_ := am (below_drew1 HB.out)
                 clear HO_210001
                 clear BK202
                 clear BK203
                 clear BK204
                 clear BK209
                 clear HB
                 have HO_210001 := n0_
                 have BK202 := n1_
                 have BK203 := n2_
                 have BK204 := n3_
                 have BK209 := n4_
                 have HB := n5_
                 clear n0_ n1_ n2_ n3_ n4_ n5_
                 have p210 : 0 ≤ (x7_1 : Int) := of_decide_eq_true (by (with_reducible assumption))
                 have q210 : x7_1 < (l0_1.length : Int) := of_decide_eq_true (by (with_reducible assumption))
                 obtain ⟨ad210, A210_0, c210_0, e210, hx210_0, hx210_1, hl210_0, hi210_0⟩ := at_T65 HR0_1.out x7_1 p210 q210
                 have hw210_1 := hx210_1
                 have hw210_0 := hx210_0
                 cases e210
                 replace hx210_0 := (HB.out.cell (World.block_lt_of_cell? w _ hx210_0)).trans hx210_0
                 replace hx210_1 := (HB.out.cell (World.block_lt_of_cell? w _ hx210_1)).trans hx210_1
                 have HR210_0 := am hi210_0
                 have HC210_0 := am hl210_0
                 clear hi210_0 hl210_0
                 replace p210 := eq_true p210
                 replace q210 := eq_true q210
                 have p211 : 0 ≤ (x8_2 : Int) := of_decide_eq_true (by (with_reducible assumption))
                 have q211 : x8_2 < (l1_1.length : Int) := of_decide_eq_true (by (with_reducible assumption))
                 obtain ⟨ad211, A211_0, c211_0, e211, hx211_0, hx211_1, hl211_0, hi211_0⟩ := at_T65 HR1_1.out x8_2 p211 q211
                 have hw211_1 := hx211_1
                 have hw211_0 := hx211_0
                 cases e211
                 replace hx211_0 := (HB.out.cell (World.block_lt_of_cell? w _ hx211_0)).trans hx211_0
                 replace hx211_1 := (HB.out.cell (World.block_lt_of_cell? w _ hx211_1)).trans hx211_1
                 have HR211_0 := am hi211_0
                 have HC211_0 := am hl211_0
                 clear hi211_0 hl211_0
                 replace p211 := eq_true p211
                 replace q211 := eq_true q211
                 refine start_ (n := 14) (S := fun w' => w'.cell? ⟨gb202, 0, none⟩ = some (.int .i64 a0_0) ∧ w'.cell? ⟨gb202, 1, none⟩ = some (.slice (some ad210) l0_1.length c0_1) ∧ w'.cell? ⟨gb203, 0, none⟩ = some (.int .i64 a1_0) ∧ w'.cell? ⟨gb203, 1, none⟩ = some (.slice (some ad211) l1_1.length c1_1) ∧ w'.cell? (ad210.add ((x7_1).toNat * 2)) = some (.slice A210_0 ((rd_T65 l0_1 x7_1).f0).length c210_0) ∧ w'.cell? ⟨(ad210.add ((x7_1).toNat * 2)).block, (ad210.add ((x7_1).toNat * 2)).off + 1, none⟩ = some (.int .i64 ((rd_T65 l0_1 x7_1).f1)) ∧ w'.cell? (ad211.add ((x8_2).toNat * 2)) = some (.slice A211_0 ((rd_T65 l1_1 x8_2).f0).length c211_0) ∧ w'.cell? ⟨(ad211.add ((x8_2).toNat * 2)).block, (ad211.add ((x8_2).toNat * 2)).off + 1, none⟩ = some (.int .i64 ((rd_T65 l1_1 x8_2).f1))) (ds := []) (bs 0 14) (by kernel_rfl) rfl rfl ⟨(blk_cell BK202.out 0).trans rfl, (blk_cell BK202.out 1).trans rfl, (blk_cell BK203.out 0).trans rfl, (blk_cell BK203.out 1).trans rfl, ((HB.out.cell (World.block_lt_of_cell? w _ hw210_0)).trans hw210_0), ((HB.out.cell (World.block_lt_of_cell? w _ hw210_1)).trans hw210_1), ((HB.out.cell (World.block_lt_of_cell? w _ hw211_0)).trans hw211_0), ((HB.out.cell (World.block_lt_of_cell? w _ hw211_1)).trans hw211_1)⟩ (fun hHeld => ?_); refine with_tabW spec_l03Join.tab8 spec_l03Join.bits8 (fun HT_ HW_ => ?_)
                 generalize wr.drew = w31 at HO_210001 BK202 BK203 BK204 BK209 HB HR210_0 HR211_0 hx210_0 hx210_1 hx211_0 hx211_1 hHeld ⊢
                 refine pure_ (i := 0) (N := some 28) (v := ?_) (a' := ?_) (bs 1 14) rfl rfl (any_of HT_.out (by kernel_rfl)) (fun _ _ _ h => h) (Or.inl ⟨by rfl, ?_⟩) ?_ ?_; rotate_left; intro w'; go_simp; with_reducible rfl; rotate_left; simp only [Act.put, q1, q2, q3, i64_w, i32_w]; rfl
                 refine pure_ (i := 2) (N := some 30) (v := ?_) (a' := ?_) (bs 5 14) rfl rfl (any_of HT_.out (by kernel_rfl)) (fun _ _ _ h => h) (Or.inl ⟨by rfl, ?_⟩) ?_ ?_; rotate_left; intro w'; go_simp; with_reducible rfl; rotate_left; simp only [Act.put, q1, q2, q3, i64_w, i32_w]; rfl
                 refine pure_ (i := 5) (N := some 33) (v := ?_) (a' := ?_) (bs 37 14) rfl rfl (any_of HT_.out (by kernel_rfl)) (fun _ _ _ h => h) (Or.inl ⟨by rfl, ?_⟩) ?_ ?_; rotate_left; intro w'; go_simp; with_reducible rfl; rotate_left; simp only [Act.put, q1, q2, q3, i64_w, i32_w]; rfl
                 refine pure_ (i := 7) (N := some 35) (v := ?_) (a' := ?_) (bs 165 14) rfl rfl (any_of HT_.out (by kernel_rfl)) (fun _ _ _ h => h) (Or.inl ⟨by rfl, ?_⟩) ?_ ?_; rotate_left; intro w'; go_simp; with_reducible rfl; rotate_left; simp only [Act.put, q1, q2, q3, i64_w, i32_w]; rfl
                 refine take_ (i := 1) (N := some 29) (v := ?_) (a' := ?_) (bs 167 14) rfl rfl (take_ofW HT_.out HW_.out (by kernel_rfl)) (fun _ _ _ h => h) (Or.inl ⟨by rfl, ?_⟩) hHeld ?_ ?_; rotate_left; rintro w' ⟨s0, s1, s2, s3, s4, s5, s6, s7⟩; go_simp; with_reducible rfl; rotate_left; simp only [Act.put, q1, q2, q3, i64_w, i32_w]; rfl
                 refine pure_ (i := 3) (N := some 31) (v := ?_) (a' := ?_) (bs 175 14) rfl rfl (any_of HT_.out (by kernel_rfl)) (fun _ _ _ h => h) (Or.inl ⟨by rfl, ?_⟩) ?_ ?_; rotate_left; intro w'; go_simp; with_reducible rfl; rotate_left; simp only [Act.put, q1, q2, q3, i64_w, i32_w]; rfl
                 refine take_ (i := 4) (N := some 32) (v := ?_) (a' := ?_) (bs 191 14) rfl rfl (take_ofW HT_.out HW_.out (by kernel_rfl)) (fun _ _ _ h => h) (Or.inl ⟨by rfl, ?_⟩) hHeld ?_ ?_; rotate_left; rintro w' ⟨s0, s1, s2, s3, s4, s5, s6, s7⟩; go_simp; with_reducible rfl; rotate_left; simp only [Act.put, q1, q2, q3, i64_w, i32_w]; rfl
                 refine take_ (i := 6) (N := some 34) (v := ?_) (a' := ?_) (bs 255 14) rfl rfl (take_ofW HT_.out HW_.out (by kernel_rfl)) (fun _ _ _ h => h) (Or.inl ⟨by rfl, ?_⟩) hHeld ?_ ?_; rotate_left; rintro w' ⟨s0, s1, s2, s3, s4, s5, s6, s7⟩; go_simp; with_reducible rfl; rotate_left; simp only [Act.put, q1, q2, q3, i64_w, i32_w]; rfl
                 refine pure_ (i := 8) (N := some 36) (v := ?_) (a' := ?_) (bs 511 14) rfl rfl (any_of HT_.out (by kernel_rfl)) (fun _ _ _ h => h) (Or.inl ⟨by rfl, ?_⟩) ?_ ?_; rotate_left; intro w'; go_simp; with_reducible rfl; rotate_left; simp only [Act.put, q1, q2, q3, i64_w, i32_w]; rfl
                 refine take_ (i := 9) (N := some 37) (v := ?_) (a' := ?_) (bs 1023 14) rfl rfl (take_ofW HT_.out HW_.out (by kernel_rfl)) (fun _ _ _ h => h) (Or.inl ⟨by rfl, ?_⟩) hHeld ?_ ?_; rotate_left; rintro w' ⟨s0, s1, s2, s3, s4, s5, s6, s7⟩; go_simp; with_reducible rfl; rotate_left; simp only [Act.put, q1, q2, q3, i64_w, i32_w]; rfl
                 refine join_ (σ := Nat × Nat) 2 (bs 4095 14) (fun s_ => [(9, .pointer (some ⟨s_.1, 0, none⟩)), (10, .pointer (some ⟨s_.2, 0, none⟩))]) (fun s_ w' => (w'.cell? ⟨gb202, 0, none⟩ = some (.int .i64 a0_0) ∧ w'.cell? ⟨gb202, 1, none⟩ = some (.slice (some ad210) l0_1.length c0_1) ∧ w'.cell? ⟨gb203, 0, none⟩ = some (.int .i64 a1_0) ∧ w'.cell? ⟨gb203, 1, none⟩ = some (.slice (some ad211) l1_1.length c1_1) ∧ w'.cell? (ad210.add ((x7_1).toNat * 2)) = some (.slice A210_0 ((rd_T65 l0_1 x7_1).f0).length c210_0) ∧ w'.cell? ⟨(ad210.add ((x7_1).toNat * 2)).block, (ad210.add ((x7_1).toNat * 2)).off + 1, none⟩ = some (.int .i64 ((rd_T65 l0_1 x7_1).f1)) ∧ w'.cell? (ad211.add ((x8_2).toNat * 2)) = some (.slice A211_0 ((rd_T65 l1_1 x8_2).f0).length c211_0) ∧ w'.cell? ⟨(ad211.add ((x8_2).toNat * 2)).block, (ad211.add ((x8_2).toNat * 2)).off + 1, none⟩ = some (.int .i64 ((rd_T65 l1_1 x8_2).f1))) ∧ (Kd.S k65 65 w' w.heap.size (fun k_ => k_ ≠ s_.1 ∧ k_ ≠ s_.2) u210001 x210001_2) ∧ (w'.heap[gb202]? = some (.cells #[.int .i64 a0_0, .slice (some ad210) l0_1.length c0_1] 28 (0, 0))) ∧ (w'.heap[gb203]? = some (.cells #[.int .i64 a1_0, .slice (some ad211) l1_1.length c1_1] 28 (0, 0))) ∧ (w'.heap[gb204]? = some (.cells #[.int .i64 x205000_2, .slice none 0 0] 28 (0, 0))) ∧ (w'.heap[gb209]? = some (.cells #[.int .i64 x210000_2, u210001] 28 (0, 0))) ∧ (w'.heap[s_.1]? = some (.cells #[.slice none 0 0, .int .i64 0] 65 (0, 0))) ∧ (w'.heap[s_.2]? = some (.cells #[.slice none 0 0, .int .i64 0] 65 (0, 0))) ∧ (w.heap.size ≤ s_.1) ∧ (w.heap.size ≤ s_.1) ∧ (gb202 ≠ s_.1) ∧ (s_.1 ≠ gb202) ∧ (gb203 ≠ s_.1) ∧ (s_.1 ≠ gb203) ∧ (gb204 ≠ s_.1) ∧ (s_.1 ≠ gb204) ∧ (gb209 ≠ s_.1) ∧ (s_.1 ≠ gb209) ∧ (s_.2 ≠ s_.1) ∧ (s_.1 ≠ s_.2) ∧ (w.heap.size ≤ s_.2) ∧ (w.heap.size ≤ s_.2) ∧ (gb202 ≠ s_.2) ∧ (s_.2 ≠ gb202) ∧ (gb203 ≠ s_.2) ∧ (s_.2 ≠ gb203) ∧ (gb204 ≠ s_.2) ∧ (s_.2 ≠ gb204) ∧ (gb209 ≠ s_.2) ∧ (s_.2 ≠ gb209) ∧ (Below w.heap.size w w')) ?_ ?_
                 rotate_left
                 · intro hCont
                   refine two_ (i := 10) (j := 11) (Ni := some 9) (Nj := some 10) (bs 2047 14) (bs 3071 14) rfl rfl rfl rfl (two_of HT_.out (by kernel_rfl)) (by decide) (by decide) (fun K hK => ?_) (fun K hK => ?_)
                   · skip
                     refine box_step ?hg (N := 9) ?hd (cs := #[.slice none 0 0, .int .i64 0]) (t := 65) ?hr ?_; (case hd => rfl); (case hg => rfl); (case hr => (go_simp; done))
                     intro gb212 hg w32 hbox hb
                     have n0_ := am (Kd.S_below (Kd.S_elderB (by (with_reducible repeat (apply Kd.S_drew)); exact HO_210001.out) gb212 (Nat.le_of_eq hg.symm)) hb)
                     have n1_ := am (blk_below (g := gb202) (o := .cells #[.int .i64 a0_0, .slice (some ad210) l0_1.length c0_1] 28 (0, 0)) (by exact BK202.out) hb)
                     have n2_ := am (blk_below (g := gb203) (o := .cells #[.int .i64 a1_0, .slice (some ad211) l1_1.length c1_1] 28 (0, 0)) (by exact BK203.out) hb)
                     have n3_ := am (blk_below (g := gb204) (o := .cells #[.int .i64 x205000_2, .slice none 0 0] 28 (0, 0)) (by exact BK204.out) hb)
                     have n4_ := am (blk_below (g := gb209) (o := .cells #[.int .i64 x210000_2, u210001] 28 (0, 0)) (by exact BK209.out) hb)
                     have n5_ := am (below_step (by repeat ((with_reducible exact HB.out))) hb)
                     have n6_ := am (hbox)
                     have n7_ := am ((by rw [hg]; exact (below_size (by repeat ((with_reducible exact HB.out)))) : w.heap.size ≤ gb212))
                     have n8_ := am ((by rw [hg]; exact (below_size (by repeat ((with_reducible exact HB.out)))) : w.heap.size ≤ gb212))
                     have n9_ := am ((by rw [hg]; exact Nat.ne_of_lt (blk_lt (g := gb202) (o := .cells #[.int .i64 a0_0, .slice (some ad210) l0_1.length c0_1] 28 (0, 0)) (by exact BK202.out)) : gb202 ≠ gb212))
                     have n10_ := am ((by rw [hg]; exact Nat.ne_of_gt (blk_lt (g := gb202) (o := .cells #[.int .i64 a0_0, .slice (some ad210) l0_1.length c0_1] 28 (0, 0)) (by exact BK202.out)) : gb212 ≠ gb202))
                     have n11_ := am ((by rw [hg]; exact Nat.ne_of_lt (blk_lt (g := gb203) (o := .cells #[.int .i64 a1_0, .slice (some ad211) l1_1.length c1_1] 28 (0, 0)) (by exact BK203.out)) : gb203 ≠ gb212))
                     have n12_ := am ((by rw [hg]; exact Nat.ne_of_gt (blk_lt (g := gb203) (o := .cells #[.int .i64 a1_0, .slice (some ad211) l1_1.length c1_1] 28 (0, 0)) (by exact BK203.out)) : gb212 ≠ gb203))
                     have n13_ := am ((by rw [hg]; exact Nat.ne_of_lt (blk_lt (g := gb204) (o := .cells #[.int .i64 x205000_2, .slice none 0 0] 28 (0, 0)) (by exact BK204.out)) : gb204 ≠ gb212))
                     have n14_ := am ((by rw [hg]; exact Nat.ne_of_gt (blk_lt (g := gb204) (o := .cells #[.int .i64 x205000_2, .slice none 0 0] 28 (0, 0)) (by exact BK204.out)) : gb212 ≠ gb204))
                     have n15_ := am ((by rw [hg]; exact Nat.ne_of_lt (blk_lt (g := gb209) (o := .cells #[.int .i64 x210000_2, u210001] 28 (0, 0)) (by exact BK209.out)) : gb209 ≠ gb212))
                     have n16_ := am ((by rw [hg]; exact Nat.ne_of_gt (blk_lt (g := gb209) (o := .cells #[.int .i64 x210000_2, u210001] 28 (0, 0)) (by exact BK209.out)) : gb212 ≠ gb209))
                     clear HO_210001
                     clear BK202
                     clear BK203
                     clear BK204
                     clear BK209
                     clear HB
                     have HO_210001 := n0_
                     have BK202 := n1_
                     have BK203 := n2_
                     have BK204 := n3_
                     have BK209 := n4_
                     have HB := n5_
                     have BK212 := n6_
                     have GW212 := n7_
                     have GE212 := n8_
                     have NB202_212 := n9_
                     have NB212_202 := n10_
                     have NB203_212 := n11_
                     have NB212_203 := n12_
                     have NB204_212 := n13_
                     have NB212_204 := n14_
                     have NB209_212 := n15_
                     have NB212_209 := n16_
                     clear n0_ n1_ n2_ n3_ n4_ n5_ n6_ n7_ n8_ n9_ n10_ n11_ n12_ n13_ n14_ n15_ n16_
                     clear hb hbox hg
                     refine hK.out _ _ ⟨(blk_cell BK202.out 0).trans rfl, (blk_cell BK202.out 1).trans rfl, (blk_cell BK203.out 0).trans rfl, (blk_cell BK203.out 1).trans rfl, ((HB.out.cell (World.block_lt_of_cell? w _ hw210_0)).trans hw210_0), ((HB.out.cell (World.block_lt_of_cell? w _ hw210_1)).trans hw210_1), ((HB.out.cell (World.block_lt_of_cell? w _ hw211_0)).trans hw211_0), ((HB.out.cell (World.block_lt_of_cell? w _ hw211_1)).trans hw211_1)⟩ (fun hHeld => ?_)
                     clear hK K
                     refine norm_ (a' := ?_) ?_ ?_; rotate_left; show Act.put _ (some 9) _ = _; simp only [Act.put, q1, q2, q3, i64_w, i32_w]; rfl
                     refine one_ (i := 11) (N := some 10) (bs 4095 14) rfl rfl (one_of HT_.out (by kernel_rfl)) (by decide) (fun K hK => ?_)
                     refine box_step ?hg (N := 10) ?hd (cs := #[.slice none 0 0, .int .i64 0]) (t := 65) ?hr ?_; (case hd => rfl); (case hg => rfl); (case hr => (go_simp; done))
                     intro gb213 hg w33 hbox hb
                     have n0_ := am (Kd.S_below (Kd.S_elderB (by (with_reducible repeat (apply Kd.S_drew)); exact HO_210001.out) gb213 (Nat.le_of_eq hg.symm)) hb)
                     have n1_ := am (blk_below (g := gb202) (o := .cells #[.int .i64 a0_0, .slice (some ad210) l0_1.length c0_1] 28 (0, 0)) (by exact BK202.out) hb)
                     have n2_ := am (blk_below (g := gb203) (o := .cells #[.int .i64 a1_0, .slice (some ad211) l1_1.length c1_1] 28 (0, 0)) (by exact BK203.out) hb)
                     have n3_ := am (blk_below (g := gb204) (o := .cells #[.int .i64 x205000_2, .slice none 0 0] 28 (0, 0)) (by exact BK204.out) hb)
                     have n4_ := am (blk_below (g := gb209) (o := .cells #[.int .i64 x210000_2, u210001] 28 (0, 0)) (by exact BK209.out) hb)
                     have n5_ := am (blk_below (g := gb212) (o := .cells #[.slice none 0 0, .int .i64 0] 65 (0, 0)) (by exact BK212.out) hb)
                     have n6_ := am (below_step (by repeat ((with_reducible exact HB.out))) hb)
                     have n7_ := am (hbox)
                     have n8_ := am ((by rw [hg]; exact (below_size (by repeat ((with_reducible exact HB.out)))) : w.heap.size ≤ gb213))
                     have n9_ := am ((by rw [hg]; exact (below_size (by repeat ((with_reducible exact HB.out)))) : w.heap.size ≤ gb213))
                     have n10_ := am ((by rw [hg]; exact Nat.ne_of_lt (blk_lt (g := gb202) (o := .cells #[.int .i64 a0_0, .slice (some ad210) l0_1.length c0_1] 28 (0, 0)) (by exact BK202.out)) : gb202 ≠ gb213))
                     have n11_ := am ((by rw [hg]; exact Nat.ne_of_gt (blk_lt (g := gb202) (o := .cells #[.int .i64 a0_0, .slice (some ad210) l0_1.length c0_1] 28 (0, 0)) (by exact BK202.out)) : gb213 ≠ gb202))
                     have n12_ := am ((by rw [hg]; exact Nat.ne_of_lt (blk_lt (g := gb203) (o := .cells #[.int .i64 a1_0, .slice (some ad211) l1_1.length c1_1] 28 (0, 0)) (by exact BK203.out)) : gb203 ≠ gb213))
                     have n13_ := am ((by rw [hg]; exact Nat.ne_of_gt (blk_lt (g := gb203) (o := .cells #[.int .i64 a1_0, .slice (some ad211) l1_1.length c1_1] 28 (0, 0)) (by exact BK203.out)) : gb213 ≠ gb203))
                     have n14_ := am ((by rw [hg]; exact Nat.ne_of_lt (blk_lt (g := gb204) (o := .cells #[.int .i64 x205000_2, .slice none 0 0] 28 (0, 0)) (by exact BK204.out)) : gb204 ≠ gb213))
                     have n15_ := am ((by rw [hg]; exact Nat.ne_of_gt (blk_lt (g := gb204) (o := .cells #[.int .i64 x205000_2, .slice none 0 0] 28 (0, 0)) (by exact BK204.out)) : gb213 ≠ gb204))
                     have n16_ := am ((by rw [hg]; exact Nat.ne_of_lt (blk_lt (g := gb209) (o := .cells #[.int .i64 x210000_2, u210001] 28 (0, 0)) (by exact BK209.out)) : gb209 ≠ gb213))
                     have n17_ := am ((by rw [hg]; exact Nat.ne_of_gt (blk_lt (g := gb209) (o := .cells #[.int .i64 x210000_2, u210001] 28 (0, 0)) (by exact BK209.out)) : gb213 ≠ gb209))
                     have n18_ := am ((by rw [hg]; exact Nat.ne_of_lt (blk_lt (g := gb212) (o := .cells #[.slice none 0 0, .int .i64 0] 65 (0, 0)) (by exact BK212.out)) : gb212 ≠ gb213))
                     have n19_ := am ((by rw [hg]; exact Nat.ne_of_gt (blk_lt (g := gb212) (o := .cells #[.slice none 0 0, .int .i64 0] 65 (0, 0)) (by exact BK212.out)) : gb213 ≠ gb212))
                     clear HO_210001
                     clear BK202
                     clear BK203
                     clear BK204
                     clear BK209
                     clear BK212
                     clear HB
                     have HO_210001 := n0_
                     have BK202 := n1_
                     have BK203 := n2_
                     have BK204 := n3_
                     have BK209 := n4_
                     have BK212 := n5_
                     have HB := n6_
                     have BK213 := n7_
                     have GW213 := n8_
                     have GE213 := n9_
                     have NB202_213 := n10_
                     have NB213_202 := n11_
                     have NB203_213 := n12_
                     have NB213_203 := n13_
                     have NB204_213 := n14_
                     have NB213_204 := n15_
                     have NB209_213 := n16_
                     have NB213_209 := n17_
                     have NB212_213 := n18_
                     have NB213_212 := n19_
                     clear n0_ n1_ n2_ n3_ n4_ n5_ n6_ n7_ n8_ n9_ n10_ n11_ n12_ n13_ n14_ n15_ n16_ n17_ n18_ n19_
                     clear hb hbox hg
                     refine hK.out _ _ ⟨(blk_cell BK202.out 0).trans rfl, (blk_cell BK202.out 1).trans rfl, (blk_cell BK203.out 0).trans rfl, (blk_cell BK203.out 1).trans rfl, ((HB.out.cell (World.block_lt_of_cell? w _ hw210_0)).trans hw210_0), ((HB.out.cell (World.block_lt_of_cell? w _ hw210_1)).trans hw210_1), ((HB.out.cell (World.block_lt_of_cell? w _ hw211_0)).trans hw211_0), ((HB.out.cell (World.block_lt_of_cell? w _ hw211_1)).trans hw211_1)⟩ (fun hHeld => ?_)
                     clear hK K
                     refine norm_ (a' := ?_) ?_ ?_; rotate_left; show Act.put _ (some 10) _ = _; simp only [Act.put, q1, q2, q3, i64_w, i32_w]; rfl
                     exact norm_ (by simp only [putAll, Act.put, q1, q2, q3]) (hCont (gb212, gb213) _ ⟨hHeld, (by (with_reducible repeat (apply Kd.S_drew)); exact Kd.S_mono HO_210001.out (fun _ hk => ⟨hk.1.2, hk.2⟩)), (by exact BK202.out), (by exact BK203.out), (by exact BK204.out), (by exact BK209.out), (by exact BK212.out), (by exact BK213.out), GW212.out, GE212.out, NB202_212.out, NB212_202.out, NB203_212.out, NB212_203.out, NB204_212.out, NB212_204.out, NB209_212.out, NB212_209.out, NB213_212.out, NB212_213.out, GW213.out, GE213.out, NB202_213.out, NB213_202.out, NB203_213.out, NB213_203.out, NB204_213.out, NB213_204.out, NB209_213.out, NB213_209.out, (by repeat ((with_reducible exact HB.out)))⟩)
                   · skip
                     refine box_step ?hg (N := 10) ?hd (cs := #[.slice none 0 0, .int .i64 0]) (t := 65) ?hr ?_; (case hd => rfl); (case hg => rfl); (case hr => (go_simp; done))
                     intro gb213 hg w32 hbox hb
                     have n0_ := am (Kd.S_below (Kd.S_elderB (by (with_reducible repeat (apply Kd.S_drew)); exact HO_210001.out) gb213 (Nat.le_of_eq hg.symm)) hb)
                     have n1_ := am (blk_below (g := gb202) (o := .cells #[.int .i64 a0_0, .slice (some ad210) l0_1.length c0_1] 28 (0, 0)) (by exact BK202.out) hb)
                     have n2_ := am (blk_below (g := gb203) (o := .cells #[.int .i64 a1_0, .slice (some ad211) l1_1.length c1_1] 28 (0, 0)) (by exact BK203.out) hb)
                     have n3_ := am (blk_below (g := gb204) (o := .cells #[.int .i64 x205000_2, .slice none 0 0] 28 (0, 0)) (by exact BK204.out) hb)
                     have n4_ := am (blk_below (g := gb209) (o := .cells #[.int .i64 x210000_2, u210001] 28 (0, 0)) (by exact BK209.out) hb)
                     have n5_ := am (below_step (by repeat ((with_reducible exact HB.out))) hb)
                     have n6_ := am (hbox)
                     have n7_ := am ((by rw [hg]; exact (below_size (by repeat ((with_reducible exact HB.out)))) : w.heap.size ≤ gb213))
                     have n8_ := am ((by rw [hg]; exact (below_size (by repeat ((with_reducible exact HB.out)))) : w.heap.size ≤ gb213))
                     have n9_ := am ((by rw [hg]; exact Nat.ne_of_lt (blk_lt (g := gb202) (o := .cells #[.int .i64 a0_0, .slice (some ad210) l0_1.length c0_1] 28 (0, 0)) (by exact BK202.out)) : gb202 ≠ gb213))
                     have n10_ := am ((by rw [hg]; exact Nat.ne_of_gt (blk_lt (g := gb202) (o := .cells #[.int .i64 a0_0, .slice (some ad210) l0_1.length c0_1] 28 (0, 0)) (by exact BK202.out)) : gb213 ≠ gb202))
                     have n11_ := am ((by rw [hg]; exact Nat.ne_of_lt (blk_lt (g := gb203) (o := .cells #[.int .i64 a1_0, .slice (some ad211) l1_1.length c1_1] 28 (0, 0)) (by exact BK203.out)) : gb203 ≠ gb213))
                     have n12_ := am ((by rw [hg]; exact Nat.ne_of_gt (blk_lt (g := gb203) (o := .cells #[.int .i64 a1_0, .slice (some ad211) l1_1.length c1_1] 28 (0, 0)) (by exact BK203.out)) : gb213 ≠ gb203))
                     have n13_ := am ((by rw [hg]; exact Nat.ne_of_lt (blk_lt (g := gb204) (o := .cells #[.int .i64 x205000_2, .slice none 0 0] 28 (0, 0)) (by exact BK204.out)) : gb204 ≠ gb213))
                     have n14_ := am ((by rw [hg]; exact Nat.ne_of_gt (blk_lt (g := gb204) (o := .cells #[.int .i64 x205000_2, .slice none 0 0] 28 (0, 0)) (by exact BK204.out)) : gb213 ≠ gb204))
                     have n15_ := am ((by rw [hg]; exact Nat.ne_of_lt (blk_lt (g := gb209) (o := .cells #[.int .i64 x210000_2, u210001] 28 (0, 0)) (by exact BK209.out)) : gb209 ≠ gb213))
                     have n16_ := am ((by rw [hg]; exact Nat.ne_of_gt (blk_lt (g := gb209) (o := .cells #[.int .i64 x210000_2, u210001] 28 (0, 0)) (by exact BK209.out)) : gb213 ≠ gb209))
                     clear HO_210001
                     clear BK202
                     clear BK203
                     clear BK204
                     clear BK209
                     clear HB
                     have HO_210001 := n0_
                     have BK202 := n1_
                     have BK203 := n2_
                     have BK204 := n3_
                     have BK209 := n4_
                     have HB := n5_
                     have BK213 := n6_
                     have GW213 := n7_
                     have GE213 := n8_
                     have NB202_213 := n9_
                     have NB213_202 := n10_
                     have NB203_213 := n11_
                     have NB213_203 := n12_
                     have NB204_213 := n13_
                     have NB213_204 := n14_
                     have NB209_213 := n15_
                     have NB213_209 := n16_
                     clear n0_ n1_ n2_ n3_ n4_ n5_ n6_ n7_ n8_ n9_ n10_ n11_ n12_ n13_ n14_ n15_ n16_
                     clear hb hbox hg
                     refine hK.out _ _ ⟨(blk_cell BK202.out 0).trans rfl, (blk_cell BK202.out 1).trans rfl, (blk_cell BK203.out 0).trans rfl, (blk_cell BK203.out 1).trans rfl, ((HB.out.cell (World.block_lt_of_cell? w _ hw210_0)).trans hw210_0), ((HB.out.cell (World.block_lt_of_cell? w _ hw210_1)).trans hw210_1), ((HB.out.cell (World.block_lt_of_cell? w _ hw211_0)).trans hw211_0), ((HB.out.cell (World.block_lt_of_cell? w _ hw211_1)).trans hw211_1)⟩ (fun hHeld => ?_)
                     clear hK K
                     refine norm_ (a' := ?_) ?_ ?_; rotate_left; show Act.put _ (some 10) _ = _; simp only [Act.put, q1, q2, q3, i64_w, i32_w]; rfl
                     refine one_ (i := 10) (N := some 9) (bs 4095 14) rfl rfl (one_of HT_.out (by kernel_rfl)) (by decide) (fun K hK => ?_)
                     refine box_step ?hg (N := 9) ?hd (cs := #[.slice none 0 0, .int .i64 0]) (t := 65) ?hr ?_; (case hd => rfl); (case hg => rfl); (case hr => (go_simp; done))
                     intro gb212 hg w33 hbox hb
                     have n0_ := am (Kd.S_below (Kd.S_elderB (by (with_reducible repeat (apply Kd.S_drew)); exact HO_210001.out) gb212 (Nat.le_of_eq hg.symm)) hb)
                     have n1_ := am (blk_below (g := gb202) (o := .cells #[.int .i64 a0_0, .slice (some ad210) l0_1.length c0_1] 28 (0, 0)) (by exact BK202.out) hb)
                     have n2_ := am (blk_below (g := gb203) (o := .cells #[.int .i64 a1_0, .slice (some ad211) l1_1.length c1_1] 28 (0, 0)) (by exact BK203.out) hb)
                     have n3_ := am (blk_below (g := gb204) (o := .cells #[.int .i64 x205000_2, .slice none 0 0] 28 (0, 0)) (by exact BK204.out) hb)
                     have n4_ := am (blk_below (g := gb209) (o := .cells #[.int .i64 x210000_2, u210001] 28 (0, 0)) (by exact BK209.out) hb)
                     have n5_ := am (blk_below (g := gb213) (o := .cells #[.slice none 0 0, .int .i64 0] 65 (0, 0)) (by exact BK213.out) hb)
                     have n6_ := am (below_step (by repeat ((with_reducible exact HB.out))) hb)
                     have n7_ := am (hbox)
                     have n8_ := am ((by rw [hg]; exact (below_size (by repeat ((with_reducible exact HB.out)))) : w.heap.size ≤ gb212))
                     have n9_ := am ((by rw [hg]; exact (below_size (by repeat ((with_reducible exact HB.out)))) : w.heap.size ≤ gb212))
                     have n10_ := am ((by rw [hg]; exact Nat.ne_of_lt (blk_lt (g := gb202) (o := .cells #[.int .i64 a0_0, .slice (some ad210) l0_1.length c0_1] 28 (0, 0)) (by exact BK202.out)) : gb202 ≠ gb212))
                     have n11_ := am ((by rw [hg]; exact Nat.ne_of_gt (blk_lt (g := gb202) (o := .cells #[.int .i64 a0_0, .slice (some ad210) l0_1.length c0_1] 28 (0, 0)) (by exact BK202.out)) : gb212 ≠ gb202))
                     have n12_ := am ((by rw [hg]; exact Nat.ne_of_lt (blk_lt (g := gb203) (o := .cells #[.int .i64 a1_0, .slice (some ad211) l1_1.length c1_1] 28 (0, 0)) (by exact BK203.out)) : gb203 ≠ gb212))
                     have n13_ := am ((by rw [hg]; exact Nat.ne_of_gt (blk_lt (g := gb203) (o := .cells #[.int .i64 a1_0, .slice (some ad211) l1_1.length c1_1] 28 (0, 0)) (by exact BK203.out)) : gb212 ≠ gb203))
                     have n14_ := am ((by rw [hg]; exact Nat.ne_of_lt (blk_lt (g := gb204) (o := .cells #[.int .i64 x205000_2, .slice none 0 0] 28 (0, 0)) (by exact BK204.out)) : gb204 ≠ gb212))
                     have n15_ := am ((by rw [hg]; exact Nat.ne_of_gt (blk_lt (g := gb204) (o := .cells #[.int .i64 x205000_2, .slice none 0 0] 28 (0, 0)) (by exact BK204.out)) : gb212 ≠ gb204))
                     have n16_ := am ((by rw [hg]; exact Nat.ne_of_lt (blk_lt (g := gb209) (o := .cells #[.int .i64 x210000_2, u210001] 28 (0, 0)) (by exact BK209.out)) : gb209 ≠ gb212))
                     have n17_ := am ((by rw [hg]; exact Nat.ne_of_gt (blk_lt (g := gb209) (o := .cells #[.int .i64 x210000_2, u210001] 28 (0, 0)) (by exact BK209.out)) : gb212 ≠ gb209))
                     have n18_ := am ((by rw [hg]; exact Nat.ne_of_lt (blk_lt (g := gb213) (o := .cells #[.slice none 0 0, .int .i64 0] 65 (0, 0)) (by exact BK213.out)) : gb213 ≠ gb212))
                     have n19_ := am ((by rw [hg]; exact Nat.ne_of_gt (blk_lt (g := gb213) (o := .cells #[.slice none 0 0, .int .i64 0] 65 (0, 0)) (by exact BK213.out)) : gb212 ≠ gb213))
                     clear HO_210001
                     clear BK202
                     clear BK203
                     clear BK204
                     clear BK209
                     clear BK213
                     clear HB
                     have HO_210001 := n0_
                     have BK202 := n1_
                     have BK203 := n2_
                     have BK204 := n3_
                     have BK209 := n4_
                     have BK213 := n5_
                     have HB := n6_
                     have BK212 := n7_
                     have GW212 := n8_
                     have GE212 := n9_
                     have NB202_212 := n10_
                     have NB212_202 := n11_
                     have NB203_212 := n12_
                     have NB212_203 := n13_
                     have NB204_212 := n14_
                     have NB212_204 := n15_
                     have NB209_212 := n16_
                     have NB212_209 := n17_
                     have NB213_212 := n18_
                     have NB212_213 := n19_
                     clear n0_ n1_ n2_ n3_ n4_ n5_ n6_ n7_ n8_ n9_ n10_ n11_ n12_ n13_ n14_ n15_ n16_ n17_ n18_ n19_
                     clear hb hbox hg
                     refine hK.out _ _ ⟨(blk_cell BK202.out 0).trans rfl, (blk_cell BK202.out 1).trans rfl, (blk_cell BK203.out 0).trans rfl, (blk_cell BK203.out 1).trans rfl, ((HB.out.cell (World.block_lt_of_cell? w _ hw210_0)).trans hw210_0), ((HB.out.cell (World.block_lt_of_cell? w _ hw210_1)).trans hw210_1), ((HB.out.cell (World.block_lt_of_cell? w _ hw211_0)).trans hw211_0), ((HB.out.cell (World.block_lt_of_cell? w _ hw211_1)).trans hw211_1)⟩ (fun hHeld => ?_)
                     clear hK K
                     refine norm_ (a' := ?_) ?_ ?_; rotate_left; show Act.put _ (some 9) _ = _; simp only [Act.put, q1, q2, q3, i64_w, i32_w]; rfl
                     exact norm_ (by simp only [putAll, Act.put, q1, q2, q3]) (hCont (gb212, gb213) _ ⟨hHeld, (by (with_reducible repeat (apply Kd.S_drew)); exact Kd.S_mono HO_210001.out (fun _ hk => ⟨hk.2, hk.1.2⟩)), (by exact BK202.out), (by exact BK203.out), (by exact BK204.out), (by exact BK209.out), (by exact BK212.out), (by exact BK213.out), GW212.out, GE212.out, NB202_212.out, NB212_202.out, NB203_212.out, NB212_203.out, NB204_212.out, NB212_204.out, NB209_212.out, NB212_209.out, NB213_212.out, NB212_213.out, GW213.out, GE213.out, NB202_213.out, NB213_202.out, NB203_213.out, NB213_203.out, NB204_213.out, NB213_204.out, NB209_213.out, NB213_209.out, (by repeat ((with_reducible exact HB.out)))⟩)
                 rintro ⟨gb212, gb213⟩ w34 ⟨hS_, h0_, h1_, h2_, h3_, h4_, h5_, h6_, h7_, h8_, h9_, h10_, h11_, h12_, h13_, h14_, h15_, h16_, h17_, h18_, h19_, h20_, h21_, h22_, h23_, h24_, h25_, h26_, h27_, h28_, h29_⟩
                 have n0_ : Aside0 (Kd.S k65 65 w34 w.heap.size (fun k_ => k_ ≠ gb212 ∧ k_ ≠ gb213) u210001 x210001_2) := ⟨h0_⟩
                 have n1_ : Aside0 (w34.heap[gb202]? = some (.cells #[.int .i64 a0_0, .slice (some ad210) l0_1.length c0_1] 28 (0, 0))) := ⟨h1_⟩
                 have n2_ : Aside0 (w34.heap[gb203]? = some (.cells #[.int .i64 a1_0, .slice (some ad211) l1_1.length c1_1] 28 (0, 0))) := ⟨h2_⟩
                 have n3_ : Aside0 (w34.heap[gb204]? = some (.cells #[.int .i64 x205000_2, .slice none 0 0] 28 (0, 0))) := ⟨h3_⟩
                 have n4_ : Aside0 (w34.heap[gb209]? = some (.cells #[.int .i64 x210000_2, u210001] 28 (0, 0))) := ⟨h4_⟩
                 have n5_ : Aside0 (w34.heap[gb212]? = some (.cells #[.slice none 0 0, .int .i64 0] 65 (0, 0))) := ⟨h5_⟩
                 have n6_ : Aside0 (w34.heap[gb213]? = some (.cells #[.slice none 0 0, .int .i64 0] 65 (0, 0))) := ⟨h6_⟩
                 have n7_ : Aside0 (w.heap.size ≤ gb212) := ⟨h7_⟩
                 have n8_ : Aside0 (w.heap.size ≤ gb212) := ⟨h8_⟩
                 have n9_ : Aside0 (gb202 ≠ gb212) := ⟨h9_⟩
                 have n10_ : Aside0 (gb212 ≠ gb202) := ⟨h10_⟩
                 have n11_ : Aside0 (gb203 ≠ gb212) := ⟨h11_⟩
                 have n12_ : Aside0 (gb212 ≠ gb203) := ⟨h12_⟩
                 have n13_ : Aside0 (gb204 ≠ gb212) := ⟨h13_⟩
                 have n14_ : Aside0 (gb212 ≠ gb204) := ⟨h14_⟩
                 have n15_ : Aside0 (gb209 ≠ gb212) := ⟨h15_⟩
                 have n16_ : Aside0 (gb212 ≠ gb209) := ⟨h16_⟩
                 have n17_ : Aside0 (gb213 ≠ gb212) := ⟨h17_⟩
                 have n18_ : Aside0 (gb212 ≠ gb213) := ⟨h18_⟩
                 have n19_ : Aside0 (w.heap.size ≤ gb213) := ⟨h19_⟩
                 have n20_ : Aside0 (w.heap.size ≤ gb213) := ⟨h20_⟩
                 have n21_ : Aside0 (gb202 ≠ gb213) := ⟨h21_⟩
                 have n22_ : Aside0 (gb213 ≠ gb202) := ⟨h22_⟩
                 have n23_ : Aside0 (gb203 ≠ gb213) := ⟨h23_⟩
                 have n24_ : Aside0 (gb213 ≠ gb203) := ⟨h24_⟩
                 have n25_ : Aside0 (gb204 ≠ gb213) := ⟨h25_⟩
                 have n26_ : Aside0 (gb213 ≠ gb204) := ⟨h26_⟩
                 have n27_ : Aside0 (gb209 ≠ gb213) := ⟨h27_⟩
                 have n28_ : Aside0 (gb213 ≠ gb209) := ⟨h28_⟩
                 have n29_ : Aside0 (Below w.heap.size w w34) := ⟨h29_⟩
                 clear HO_210001
                 clear BK202
                 clear BK203
                 clear BK204
                 clear BK209
                 clear HB
                 clear h0_ h1_ h2_ h3_ h4_ h5_ h6_ h7_ h8_ h9_ h10_ h11_ h12_ h13_ h14_ h15_ h16_ h17_ h18_ h19_ h20_ h21_ h22_ h23_ h24_ h25_ h26_ h27_ h28_ h29_
                 have HO_210001 := n0_
                 have BK202 := n1_
                 have BK203 := n2_
                 have BK204 := n3_
                 have BK209 := n4_
                 have BK212 := n5_
                 have BK213 := n6_
                 have GW212 := n7_
                 have GE212 := n8_
                 have NB202_212 := n9_
                 have NB212_202 := n10_
                 have NB203_212 := n11_
                 have NB212_203 := n12_
                 have NB204_212 := n13_
                 have NB212_204 := n14_
                 have NB209_212 := n15_
                 have NB212_209 := n16_
                 have NB213_212 := n17_
                 have NB212_213 := n18_
                 have GW213 := n19_
                 have GE213 := n20_
                 have NB202_213 := n21_
                 have NB213_202 := n22_
                 have NB203_213 := n23_
                 have NB213_203 := n24_
                 have NB204_213 := n25_
                 have NB213_204 := n26_
                 have NB209_213 := n27_
                 have NB213_209 := n28_
                 have HB := n29_
                 clear n0_ n1_ n2_ n3_ n4_ n5_ n6_ n7_ n8_ n9_ n10_ n11_ n12_ n13_ n14_ n15_ n16_ n17_ n18_ n19_ n20_ n21_ n22_ n23_ n24_ n25_ n26_ n27_ n28_ n29_
                 have hHeld : w34.cell? ⟨gb202, 0, none⟩ = some (.int .i64 a0_0) ∧ w34.cell? ⟨gb202, 1, none⟩ = some (.slice (some ad210) l0_1.length c0_1) ∧ w34.cell? ⟨gb203, 0, none⟩ = some (.int .i64 a1_0) ∧ w34.cell? ⟨gb203, 1, none⟩ = some (.slice (some ad211) l1_1.length c1_1) ∧ w34.cell? (ad210.add ((x7_1).toNat * 2)) = some (.slice A210_0 ((rd_T65 l0_1 x7_1).f0).length c210_0) ∧ w34.cell? ⟨(ad210.add ((x7_1).toNat * 2)).block, (ad210.add ((x7_1).toNat * 2)).off + 1, none⟩ = some (.int .i64 ((rd_T65 l0_1 x7_1).f1)) ∧ w34.cell? (ad211.add ((x8_2).toNat * 2)) = some (.slice A211_0 ((rd_T65 l1_1 x8_2).f0).length c211_0) ∧ w34.cell? ⟨(ad211.add ((x8_2).toNat * 2)).block, (ad211.add ((x8_2).toNat * 2)).off + 1, none⟩ = some (.int .i64 ((rd_T65 l1_1 x8_2).f1)) := hS_
                 refine norm_ (a' := ?_) ?_ ?_; rotate_left; simp only [putAll, Act.put, q1, q2, q3]; rfl
                 refine one_ (i := 12) (N := none) (bs 8191 14) rfl rfl (one_of HT_.out (by kernel_rfl)) (by decide) (fun K hK => ?_)
                 have hs35 : w34.cell? ⟨gb212, 0, none⟩ = some (.slice none 0 0) := (blk_cell BK212.out 0).trans rfl
                 have hfs35 := blk_frozen BK212.out 0
                 have hns35_0 := NB202_212.out
                 have hns35_1 := NB203_212.out
                 have hns35_2 := NB204_212.out
                 have hns35_3 := NB209_212.out
                 have hns35_5 := NB213_212.out
                 have hms35_0 := NB212_202.out
                 have hms35_1 := NB212_203.out
                 have hms35_2 := NB212_204.out
                 have hms35_3 := NB212_209.out
                 have hms35_5 := NB212_213.out
                 have hs36 : w34.cell? ⟨gb212, 1, none⟩ = some (.int .i64 0) := (blk_cell BK212.out 1).trans rfl
                 have hfs36 := blk_frozen BK212.out 1
                 have hns36_0 := NB202_212.out
                 have hns36_1 := NB203_212.out
                 have hns36_2 := NB204_212.out
                 have hns36_3 := NB209_212.out
                 have hns36_5 := NB213_212.out
                 have hms36_0 := NB212_202.out
                 have hms36_1 := NB212_203.out
                 have hms36_2 := NB212_204.out
                 have hms36_3 := NB212_209.out
                 have hms36_5 := NB212_213.out
                 refine skip_ (w1 := ?_) (by rfl) rfl ?_ ?_
                 rotate_left
                 · go_simp
                   rfl
                 refine hK.out _ _ ⟨((cell_far (p := ⟨gb212, _, none⟩) NB202_212.out _).trans (((cell_far (p := ⟨gb212, _, none⟩) NB202_212.out _).trans (hHeld.1)))), ((cell_far (p := ⟨gb212, _, none⟩) NB202_212.out _).trans (((cell_far (p := ⟨gb212, _, none⟩) NB202_212.out _).trans (hHeld.2.1)))), ((cell_far (p := ⟨gb212, _, none⟩) NB203_212.out _).trans (((cell_far (p := ⟨gb212, _, none⟩) NB203_212.out _).trans (hHeld.2.2.1)))), ((cell_far (p := ⟨gb212, _, none⟩) NB203_212.out _).trans (((cell_far (p := ⟨gb212, _, none⟩) NB203_212.out _).trans (hHeld.2.2.2.1)))), ((cell_far (p := ⟨gb212, _, none⟩) (by exact Nat.ne_of_lt (Nat.lt_of_lt_of_le (by have := World.block_lt_of_cell? _ _ hw210_0; exact this) GW212.out)) _).trans (((cell_far (p := ⟨gb212, _, none⟩) (by exact Nat.ne_of_lt (Nat.lt_of_lt_of_le (by have := World.block_lt_of_cell? _ _ hw210_0; exact this) GW212.out)) _).trans (hHeld.2.2.2.2.1)))), ((cell_far (p := ⟨gb212, _, none⟩) (by exact Nat.ne_of_lt (Nat.lt_of_lt_of_le (by have := World.block_lt_of_cell? _ _ hw210_1; exact this) GW212.out)) _).trans (((cell_far (p := ⟨gb212, _, none⟩) (by exact Nat.ne_of_lt (Nat.lt_of_lt_of_le (by have := World.block_lt_of_cell? _ _ hw210_1; exact this) GW212.out)) _).trans (hHeld.2.2.2.2.2.1)))), ((cell_far (p := ⟨gb212, _, none⟩) (by exact Nat.ne_of_lt (Nat.lt_of_lt_of_le (by have := World.block_lt_of_cell? _ _ hw211_0; exact this) GW212.out)) _).trans (((cell_far (p := ⟨gb212, _, none⟩) (by exact Nat.ne_of_lt (Nat.lt_of_lt_of_le (by have := World.block_lt_of_cell? _ _ hw211_0; exact this) GW212.out)) _).trans (hHeld.2.2.2.2.2.2.1)))), ((cell_far (p := ⟨gb212, _, none⟩) (by exact Nat.ne_of_lt (Nat.lt_of_lt_of_le (by have := World.block_lt_of_cell? _ _ hw211_1; exact this) GW212.out)) _).trans (((cell_far (p := ⟨gb212, _, none⟩) (by exact Nat.ne_of_lt (Nat.lt_of_lt_of_le (by have := World.block_lt_of_cell? _ _ hw211_1; exact this) GW212.out)) _).trans (hHeld.2.2.2.2.2.2.2))))⟩ (fun hHeld => ?_)
                 clear hK K
                 refine one_ (i := 13) (N := none) (bs 16383 14) rfl rfl (one_of HT_.out (by kernel_rfl)) (by decide) (fun K hK => ?_)
                 have hs37 : w34.cell? ⟨gb213, 0, none⟩ = some (.slice none 0 0) := (blk_cell BK213.out 0).trans rfl
                 have hfs37 := blk_frozen BK213.out 0
                 have hns37_0 := NB202_213.out
                 have hns37_1 := NB203_213.out
                 have hns37_2 := NB204_213.out
                 have hns37_3 := NB209_213.out
                 have hns37_4 := NB212_213.out
                 have hms37_0 := NB213_202.out
                 have hms37_1 := NB213_203.out
                 have hms37_2 := NB213_204.out
                 have hms37_3 := NB213_209.out
                 have hms37_4 := NB213_212.out
                 have hs38 : w34.cell? ⟨gb213, 1, none⟩ = some (.int .i64 0) := (blk_cell BK213.out 1).trans rfl
                 have hfs38 := blk_frozen BK213.out 1
                 have hns38_0 := NB202_213.out
                 have hns38_1 := NB203_213.out
                 have hns38_2 := NB204_213.out
                 have hns38_3 := NB209_213.out
                 have hns38_4 := NB212_213.out
                 have hms38_0 := NB213_202.out
                 have hms38_1 := NB213_203.out
                 have hms38_2 := NB213_204.out
                 have hms38_3 := NB213_209.out
                 have hms38_4 := NB213_212.out
                 refine skip_ (w1 := ?_) (by rfl) rfl ?_ ?_
                 rotate_left
                 · go_simp
                   rfl
                 refine hK.out _ _ ⟨((cell_far (p := ⟨gb213, _, none⟩) NB202_213.out _).trans (((cell_far (p := ⟨gb213, _, none⟩) NB202_213.out _).trans (hHeld.1)))), ((cell_far (p := ⟨gb213, _, none⟩) NB202_213.out _).trans (((cell_far (p := ⟨gb213, _, none⟩) NB202_213.out _).trans (hHeld.2.1)))), ((cell_far (p := ⟨gb213, _, none⟩) NB203_213.out _).trans (((cell_far (p := ⟨gb213, _, none⟩) NB203_213.out _).trans (hHeld.2.2.1)))), ((cell_far (p := ⟨gb213, _, none⟩) NB203_213.out _).trans (((cell_far (p := ⟨gb213, _, none⟩) NB203_213.out _).trans (hHeld.2.2.2.1)))), ((cell_far (p := ⟨gb213, _, none⟩) (by exact Nat.ne_of_lt (Nat.lt_of_lt_of_le (by have := World.block_lt_of_cell? _ _ hw210_0; exact this) GW213.out)) _).trans (((cell_far (p := ⟨gb213, _, none⟩) (by exact Nat.ne_of_lt (Nat.lt_of_lt_of_le (by have := World.block_lt_of_cell? _ _ hw210_0; exact this) GW213.out)) _).trans (hHeld.2.2.2.2.1)))), ((cell_far (p := ⟨gb213, _, none⟩) (by exact Nat.ne_of_lt (Nat.lt_of_lt_of_le (by have := World.block_lt_of_cell? _ _ hw210_1; exact this) GW213.out)) _).trans (((cell_far (p := ⟨gb213, _, none⟩) (by exact Nat.ne_of_lt (Nat.lt_of_lt_of_le (by have := World.block_lt_of_cell? _ _ hw210_1; exact this) GW213.out)) _).trans (hHeld.2.2.2.2.2.1)))), ((cell_far (p := ⟨gb213, _, none⟩) (by exact Nat.ne_of_lt (Nat.lt_of_lt_of_le (by have := World.block_lt_of_cell? _ _ hw211_0; exact this) GW213.out)) _).trans (((cell_far (p := ⟨gb213, _, none⟩) (by exact Nat.ne_of_lt (Nat.lt_of_lt_of_le (by have := World.block_lt_of_cell? _ _ hw211_0; exact this) GW213.out)) _).trans (hHeld.2.2.2.2.2.2.1)))), ((cell_far (p := ⟨gb213, _, none⟩) (by exact Nat.ne_of_lt (Nat.lt_of_lt_of_le (by have := World.block_lt_of_cell? _ _ hw211_1; exact this) GW213.out)) _).trans (((cell_far (p := ⟨gb213, _, none⟩) (by exact Nat.ne_of_lt (Nat.lt_of_lt_of_le (by have := World.block_lt_of_cell? _ _ hw211_1; exact this) GW213.out)) _).trans (hHeld.2.2.2.2.2.2.2))))⟩ (fun hHeld => ?_)
                 clear hK K
                 refine done_ (done_of HT_.out (by kernel_rfl)) ?_
                 have hnb39 := NB212_202.out
                 have hnc39 := NB202_212.out
                 have hnb40 := NB212_203.out
                 have hnc40 := NB203_212.out
                 have hnb41 := NB212_204.out
                 have hnc41 := NB204_212.out
                 have hnb42 := NB212_209.out
                 have hnc42 := NB209_212.out
                 have hnb43 := NB212_213.out
                 have hnc43 := NB213_212.out
                 have hcz44_0 : w34.cell? ⟨gb212, 0, none⟩ = some (.slice none 0 0) := (blk_cell BK212.out 0).trans rfl
                 have hcz44_1 : w34.cell? ⟨gb212, 1, none⟩ = some (.int .i64 0) := (blk_cell BK212.out 1).trans rfl
                 have hfz44_0 := blk_frozen BK212.out 0
                 have hfz44_1 := blk_frozen BK212.out 1
                 have hnb45 := NB213_202.out
                 have hnc45 := NB202_213.out
                 have hnb46 := NB213_203.out
                 have hnc46 := NB203_213.out
                 have hnb47 := NB213_204.out
                 have hnc47 := NB204_213.out
                 have hnb48 := NB213_209.out
                 have hnc48 := NB209_213.out
                 have hcz49_0 : w34.cell? ⟨gb213, 0, none⟩ = some (.slice none 0 0) := (blk_cell BK213.out 0).trans rfl
                 have hcz49_1 : w34.cell? ⟨gb213, 1, none⟩ = some (.int .i64 0) := (blk_cell BK213.out 1).trans rfl
                 have hfz49_0 := blk_frozen BK213.out 0
                 have hfz49_1 := blk_frozen BK213.out 1
                 have hnb50 := NB209_202.out
                 have hnc50 := NB202_209.out
                 have hnb51 := NB209_204.out
                 have hnc51 := NB204_209.out
                 have hcz52_0 : w34.cell? ⟨gb209, 0, none⟩ = some (.int .i64 x210000_2) := (blk_cell BK209.out 0).trans rfl
                 have hcz52_1 : w34.cell? ⟨gb209, 1, none⟩ = some (u210001) := (blk_cell BK209.out 1).trans rfl
                 have hfz52_0 := blk_frozen BK209.out 0
                 have hfz52_1 := blk_frozen BK209.out 1
                 have hnb53 := NB204_202.out
                 have hnc53 := NB202_204.out
                 have hcz54_0 : w34.cell? ⟨gb204, 0, none⟩ = some (.int .i64 x205000_2) := (blk_cell BK204.out 0).trans rfl
                 have hcz54_1 : w34.cell? ⟨gb204, 1, none⟩ = some (.slice none 0 0) := (blk_cell BK204.out 1).trans rfl
                 have hfz54_0 := blk_frozen BK204.out 0
                 have hfz54_1 := blk_frozen BK204.out 1
                 obtain ⟨Ao55, co55, eo55⟩ := Kd.S_slice HO_210001.out
                 subst eo55
                 try go_wp2
                 refine bodyPost_ret (results_ct rfl _ _ gb204 28 #[.int .i64 x210000_2, .slice Ao55 x210001_2.length co55] (0, 0) _ rfl (by (with_reducible repeat (refine blk_drew ?_)); refine blk_put (cs := #[.int .i64 x210000_2, .slice none 0 0]) ?_ 1 _ rfl; (with_reducible repeat (refine blk_drew ?_)); refine blk_put (cs := #[.int .i64 x205000_2, .slice none 0 0]) ?_ 0 _ rfl; (with_reducible repeat (refine blk_drew ?_)); refine blk_far ?_ NB204_213.out _; (with_reducible repeat (refine blk_drew ?_)); refine blk_far ?_ NB204_213.out _; (with_reducible repeat (refine blk_drew ?_)); refine blk_far ?_ NB204_212.out _; (with_reducible repeat (refine blk_drew ?_)); refine blk_far ?_ NB204_212.out _; (with_reducible repeat (refine blk_drew ?_)); exact BK204.out) Try.underlying28 rfl (by kernel_rfl)) rfl ?_
                 exact ⟨_, by rfl, by (with_reducible repeat (apply Kd.S_drew)); exact Kd.S_mono (Kd.S_far (p := ⟨gb204, 1, none⟩) (Kd.S_far (p := ⟨gb204, 0, none⟩) (Kd.S_far (p := ⟨gb213, 1, none⟩) (Kd.S_far (p := ⟨gb213, 0, none⟩) (Kd.S_far (p := ⟨gb212, 1, none⟩) (Kd.S_far (p := ⟨gb212, 0, none⟩) (Kd.S_types (Kd.S_mono (Kd.S_mono HO_210001.out (fun k_ hk => (⟨hk, hk.1⟩ : _ ∧ k_ ≠ gb212))) (fun k_ hk => (⟨hk, hk.1.2⟩ : _ ∧ k_ ≠ gb213))) BK204.out (by decide)) (fun _ hk => hk.1.1.2) (.slice A210_0 ((rd_T65 l0_1 x7_1).f0).length c210_0)) (fun _ hk => hk.1.1.2) (.int .i64 ((rd_T65 l0_1 x7_1).f1))) (fun _ hk => hk.1.2) (.slice A211_0 ((rd_T65 l1_1 x8_2).f0).length c211_0)) (fun _ hk => hk.1.2) (.int .i64 ((rd_T65 l1_1 x8_2).f1))) (fun _ hk => hk.2) (.int .i64 x210000_2)) (fun _ hk => hk.2) (.slice Ao55 x210001_2.length co55)) (fun _ hk => trivial), by repeat ((with_reducible first | exact HB.out | refine below_set ?_ GE204.out | refine below_set ?_ GE212.out | refine below_set ?_ GE213.out))⟩
               · rw [if_neg c26] at H
                 have c26b0 : decide (12 < (wrap64 ((((rd_T65 l0_1 x7_1).f0).length : Int) + (((rd_T65 l1_1 x8_2).f0).length : Int)))) = false := decide_eq_false c26
                 clear c26
                 replace H := Option.bind_eq_some_iff.mp H
                 obtain ⟨t214, A560, H⟩ := H
                 replace H : ((spec_l03Put.f k2 x210000_2 x210001_2 t214 (wrap64 (((rd_T65 l0_1 x7_1).f1) * ((rd_T65 l1_1 x8_2).f1)))).bind fun bt217 => (spec_l03Join.l1 k2 x7_1 (wrap64 (x8_2 + 1)) a0_0 l0_1 a1_0 l1_1 bt217.1 bt217.2)) = some (r1, r2, r3) := H
                 have A56 := am A560
                 clear A560
                 replace H := Option.bind_eq_some_iff.mp H
                 obtain ⟨⟨t217, t218⟩, A570, H⟩ := H
                 replace H : (spec_l03Join.l1 k2 x7_1 (wrap64 (x8_2 + 1)) a0_0 l0_1 a1_0 l1_1 t217 t218) = some (r1, r2, r3) := H
                 have A57 := am A570
                 clear A570
                 have H' := am H
                 clear H
                 have hnb58 := NB203_202.out
                 have hnc58 := NB202_203.out
                 have hnb59 := NB203_204.out
                 have hnc59 := NB204_203.out
                 have hnb60 := NB203_209.out
                 have hnc60 := NB209_203.out
                 have hcz61_0 : wr.cell? ⟨gb203, 0, none⟩ = some (.int .i64 a1_0) := (blk_cell BK203.out 0).trans rfl
                 have hcz61_1 : wr.cell? ⟨gb203, 1, none⟩ = some (.slice A1_1 l1_1.length c1_1) := (blk_cell BK203.out 1).trans rfl
                 have hfz61_0 := blk_frozen BK203.out 0
                 have hfz61_1 := blk_frozen BK203.out 1
                 try go_wp2
                 have n0_ := am (Kd.S_drew HO_210001.out)
                 have n1_ := am (blk_drew BK202.out)
                 have n2_ := am (blk_drew BK203.out)
                 have n3_ := am (blk_drew BK204.out)
                 have n4_ := am (blk_drew BK209.out)
                 have n5_ := am (below_drew1 HB.out)
                 clear HO_210001
                 clear BK202
                 clear BK203
                 clear BK204
                 clear BK209
                 clear HB
                 have HO_210001 := n0_
                 have BK202 := n1_
                 have BK203 := n2_
                 have BK204 := n3_
                 have BK209 := n4_
                 have HB := n5_
                 clear n0_ n1_ n2_ n3_ n4_ n5_
                 have p210 : 0 ≤ (x7_1 : Int) := of_decide_eq_true (by (with_reducible assumption))
                 have q210 : x7_1 < (l0_1.length : Int) := of_decide_eq_true (by (with_reducible assumption))
                 obtain ⟨ad210, A210_0, c210_0, e210, hx210_0, hx210_1, hl210_0, hi210_0⟩ := at_T65 HR0_1.out x7_1 p210 q210
                 have hw210_1 := hx210_1
                 have hw210_0 := hx210_0
                 cases e210
                 replace hx210_0 := (HB.out.cell (World.block_lt_of_cell? w _ hx210_0)).trans hx210_0
                 replace hx210_1 := (HB.out.cell (World.block_lt_of_cell? w _ hx210_1)).trans hx210_1
                 have HR210_0 := am hi210_0
                 have HC210_0 := am hl210_0
                 clear hi210_0 hl210_0
                 replace p210 := eq_true p210
                 replace q210 := eq_true q210
                 have p211 : 0 ≤ (x8_2 : Int) := of_decide_eq_true (by (with_reducible assumption))
                 have q211 : x8_2 < (l1_1.length : Int) := of_decide_eq_true (by (with_reducible assumption))
                 obtain ⟨ad211, A211_0, c211_0, e211, hx211_0, hx211_1, hl211_0, hi211_0⟩ := at_T65 HR1_1.out x8_2 p211 q211
                 have hw211_1 := hx211_1
                 have hw211_0 := hx211_0
                 cases e211
                 replace hx211_0 := (HB.out.cell (World.block_lt_of_cell? w _ hx211_0)).trans hx211_0
                 replace hx211_1 := (HB.out.cell (World.block_lt_of_cell? w _ hx211_1)).trans hx211_1
                 have HR211_0 := am hi211_0
                 have HC211_0 := am hl211_0
                 clear hi211_0 hl211_0
                 replace p211 := eq_true p211
                 replace q211 := eq_true q211
                 refine start_ (n := 14) (S := fun w' => w'.cell? ⟨gb202, 0, none⟩ = some (.int .i64 a0_0) ∧ w'.cell? ⟨gb202, 1, none⟩ = some (.slice (some ad210) l0_1.length c0_1) ∧ w'.cell? ⟨gb203, 0, none⟩ = some (.int .i64 a1_0) ∧ w'.cell? ⟨gb203, 1, none⟩ = some (.slice (some ad211) l1_1.length c1_1) ∧ w'.cell? (ad210.add ((x7_1).toNat * 2)) = some (.slice A210_0 ((rd_T65 l0_1 x7_1).f0).length c210_0) ∧ w'.cell? ⟨(ad210.add ((x7_1).toNat * 2)).block, (ad210.add ((x7_1).toNat * 2)).off + 1, none⟩ = some (.int .i64 ((rd_T65 l0_1 x7_1).f1)) ∧ w'.cell? (ad211.add ((x8_2).toNat * 2)) = some (.slice A211_0 ((rd_T65 l1_1 x8_2).f0).length c211_0) ∧ w'.cell? ⟨(ad211.add ((x8_2).toNat * 2)).block, (ad211.add ((x8_2).toNat * 2)).off + 1, none⟩ = some (.int .i64 ((rd_T65 l1_1 x8_2).f1))) (ds := []) (bs 0 14) (by kernel_rfl) rfl rfl ⟨(blk_cell BK202.out 0).trans rfl, (blk_cell BK202.out 1).trans rfl, (blk_cell BK203.out 0).trans rfl, (blk_cell BK203.out 1).trans rfl, ((HB.out.cell (World.block_lt_of_cell? w _ hw210_0)).trans hw210_0), ((HB.out.cell (World.block_lt_of_cell? w _ hw210_1)).trans hw210_1), ((HB.out.cell (World.block_lt_of_cell? w _ hw211_0)).trans hw211_0), ((HB.out.cell (World.block_lt_of_cell? w _ hw211_1)).trans hw211_1)⟩ (fun hHeld => ?_); refine with_tabW spec_l03Join.tab8 spec_l03Join.bits8 (fun HT_ HW_ => ?_)
                 generalize wr.drew = w62 at HO_210001 BK202 BK203 BK204 BK209 HB HR210_0 HR211_0 hx210_0 hx210_1 hx211_0 hx211_1 hHeld ⊢
                 refine pure_ (i := 0) (N := some 28) (v := ?_) (a' := ?_) (bs 1 14) rfl rfl (any_of HT_.out (by kernel_rfl)) (fun _ _ _ h => h) (Or.inl ⟨by rfl, ?_⟩) ?_ ?_; rotate_left; intro w'; go_simp; with_reducible rfl; rotate_left; simp only [Act.put, q1, q2, q3, i64_w, i32_w]; rfl
                 refine pure_ (i := 2) (N := some 30) (v := ?_) (a' := ?_) (bs 5 14) rfl rfl (any_of HT_.out (by kernel_rfl)) (fun _ _ _ h => h) (Or.inl ⟨by rfl, ?_⟩) ?_ ?_; rotate_left; intro w'; go_simp; with_reducible rfl; rotate_left; simp only [Act.put, q1, q2, q3, i64_w, i32_w]; rfl
                 refine pure_ (i := 5) (N := some 33) (v := ?_) (a' := ?_) (bs 37 14) rfl rfl (any_of HT_.out (by kernel_rfl)) (fun _ _ _ h => h) (Or.inl ⟨by rfl, ?_⟩) ?_ ?_; rotate_left; intro w'; go_simp; with_reducible rfl; rotate_left; simp only [Act.put, q1, q2, q3, i64_w, i32_w]; rfl
                 refine pure_ (i := 7) (N := some 35) (v := ?_) (a' := ?_) (bs 165 14) rfl rfl (any_of HT_.out (by kernel_rfl)) (fun _ _ _ h => h) (Or.inl ⟨by rfl, ?_⟩) ?_ ?_; rotate_left; intro w'; go_simp; with_reducible rfl; rotate_left; simp only [Act.put, q1, q2, q3, i64_w, i32_w]; rfl
                 refine take_ (i := 1) (N := some 29) (v := ?_) (a' := ?_) (bs 167 14) rfl rfl (take_ofW HT_.out HW_.out (by kernel_rfl)) (fun _ _ _ h => h) (Or.inl ⟨by rfl, ?_⟩) hHeld ?_ ?_; rotate_left; rintro w' ⟨s0, s1, s2, s3, s4, s5, s6, s7⟩; go_simp; with_reducible rfl; rotate_left; simp only [Act.put, q1, q2, q3, i64_w, i32_w]; rfl
                 refine pure_ (i := 3) (N := some 31) (v := ?_) (a' := ?_) (bs 175 14) rfl rfl (any_of HT_.out (by kernel_rfl)) (fun _ _ _ h => h) (Or.inl ⟨by rfl, ?_⟩) ?_ ?_; rotate_left; intro w'; go_simp; with_reducible rfl; rotate_left; simp only [Act.put, q1, q2, q3, i64_w, i32_w]; rfl
                 refine take_ (i := 4) (N := some 32) (v := ?_) (a' := ?_) (bs 191 14) rfl rfl (take_ofW HT_.out HW_.out (by kernel_rfl)) (fun _ _ _ h => h) (Or.inl ⟨by rfl, ?_⟩) hHeld ?_ ?_; rotate_left; rintro w' ⟨s0, s1, s2, s3, s4, s5, s6, s7⟩; go_simp; with_reducible rfl; rotate_left; simp only [Act.put, q1, q2, q3, i64_w, i32_w]; rfl
                 refine take_ (i := 6) (N := some 34) (v := ?_) (a' := ?_) (bs 255 14) rfl rfl (take_ofW HT_.out HW_.out (by kernel_rfl)) (fun _ _ _ h => h) (Or.inl ⟨by rfl, ?_⟩) hHeld ?_ ?_; rotate_left; rintro w' ⟨s0, s1, s2, s3, s4, s5, s6, s7⟩; go_simp; with_reducible rfl; rotate_left; simp only [Act.put, q1, q2, q3, i64_w, i32_w]; rfl
                 refine pure_ (i := 8) (N := some 36) (v := ?_) (a' := ?_) (bs 511 14) rfl rfl (any_of HT_.out (by kernel_rfl)) (fun _ _ _ h => h) (Or.inl ⟨by rfl, ?_⟩) ?_ ?_; rotate_left; intro w'; go_simp; with_reducible rfl; rotate_left; simp only [Act.put, q1, q2, q3, i64_w, i32_w]; rfl
                 refine take_ (i := 9) (N := some 37) (v := ?_) (a' := ?_) (bs 1023 14) rfl rfl (take_ofW HT_.out HW_.out (by kernel_rfl)) (fun _ _ _ h => h) (Or.inl ⟨by rfl, ?_⟩) hHeld ?_ ?_; rotate_left; rintro w' ⟨s0, s1, s2, s3, s4, s5, s6, s7⟩; go_simp; with_reducible rfl; rotate_left; simp only [Act.put, q1, q2, q3, i64_w, i32_w]; rfl
                 refine join_ (σ := Nat × Nat) 2 (bs 4095 14) (fun s_ => [(9, .pointer (some ⟨s_.1, 0, none⟩)), (10, .pointer (some ⟨s_.2, 0, none⟩))]) (fun s_ w' => (w'.cell? ⟨gb202, 0, none⟩ = some (.int .i64 a0_0) ∧ w'.cell? ⟨gb202, 1, none⟩ = some (.slice (some ad210) l0_1.length c0_1) ∧ w'.cell? ⟨gb203, 0, none⟩ = some (.int .i64 a1_0) ∧ w'.cell? ⟨gb203, 1, none⟩ = some (.slice (some ad211) l1_1.length c1_1) ∧ w'.cell? (ad210.add ((x7_1).toNat * 2)) = some (.slice A210_0 ((rd_T65 l0_1 x7_1).f0).length c210_0) ∧ w'.cell? ⟨(ad210.add ((x7_1).toNat * 2)).block, (ad210.add ((x7_1).toNat * 2)).off + 1, none⟩ = some (.int .i64 ((rd_T65 l0_1 x7_1).f1)) ∧ w'.cell? (ad211.add ((x8_2).toNat * 2)) = some (.slice A211_0 ((rd_T65 l1_1 x8_2).f0).length c211_0) ∧ w'.cell? ⟨(ad211.add ((x8_2).toNat * 2)).block, (ad211.add ((x8_2).toNat * 2)).off + 1, none⟩ = some (.int .i64 ((rd_T65 l1_1 x8_2).f1))) ∧ (Kd.S k65 65 w' w.heap.size (fun k_ => k_ ≠ s_.1 ∧ k_ ≠ s_.2) u210001 x210001_2) ∧ (w'.heap[gb202]? = some (.cells #[.int .i64 a0_0, .slice (some ad210) l0_1.length c0_1] 28 (0, 0))) ∧ (w'.heap[gb203]? = some (.cells #[.int .i64 a1_0, .slice (some ad211) l1_1.length c1_1] 28 (0, 0))) ∧ (w'.heap[gb204]? = some (.cells #[.int .i64 x205000_2, .slice none 0 0] 28 (0, 0))) ∧ (w'.heap[gb209]? = some (.cells #[.int .i64 x210000_2, u210001] 28 (0, 0))) ∧ (w'.heap[s_.1]? = some (.cells #[.slice none 0 0, .int .i64 0] 65 (0, 0))) ∧ (w'.heap[s_.2]? = some (.cells #[.slice none 0 0, .int .i64 0] 65 (0, 0))) ∧ (w.heap.size ≤ s_.1) ∧ (w.heap.size ≤ s_.1) ∧ (gb202 ≠ s_.1) ∧ (s_.1 ≠ gb202) ∧ (gb203 ≠ s_.1) ∧ (s_.1 ≠ gb203) ∧ (gb204 ≠ s_.1) ∧ (s_.1 ≠ gb204) ∧ (gb209 ≠ s_.1) ∧ (s_.1 ≠ gb209) ∧ (s_.2 ≠ s_.1) ∧ (s_.1 ≠ s_.2) ∧ (w.heap.size ≤ s_.2) ∧ (w.heap.size ≤ s_.2) ∧ (gb202 ≠ s_.2) ∧ (s_.2 ≠ gb202) ∧ (gb203 ≠ s_.2) ∧ (s_.2 ≠ gb203) ∧ (gb204 ≠ s_.2) ∧ (s_.2 ≠ gb204) ∧ (gb209 ≠ s_.2) ∧ (s_.2 ≠ gb209) ∧ (Below w.heap.size w w')) ?_ ?_
                 rotate_left
                 · intro hCont
                   refine two_ (i := 10) (j := 11) (Ni := some 9) (Nj := some 10) (bs 2047 14) (bs 3071 14) rfl rfl rfl rfl (two_of HT_.out (by kernel_rfl)) (by decide) (by decide) (fun K hK => ?_) (fun K hK => ?_)
                   · skip
                     refine box_step ?hg (N := 9) ?hd (cs := #[.slice none 0 0, .int .i64 0]) (t := 65) ?hr ?_; (case hd => rfl); (case hg => rfl); (case hr => (go_simp; done))
                     intro gb212 hg w63 hbox hb
                     have n0_ := am (Kd.S_below (Kd.S_elderB (by (with_reducible repeat (apply Kd.S_drew)); exact HO_210001.out) gb212 (Nat.le_of_eq hg.symm)) hb)
                     have n1_ := am (blk_below (g := gb202) (o := .cells #[.int .i64 a0_0, .slice (some ad210) l0_1.length c0_1] 28 (0, 0)) (by exact BK202.out) hb)
                     have n2_ := am (blk_below (g := gb203) (o := .cells #[.int .i64 a1_0, .slice (some ad211) l1_1.length c1_1] 28 (0, 0)) (by exact BK203.out) hb)
                     have n3_ := am (blk_below (g := gb204) (o := .cells #[.int .i64 x205000_2, .slice none 0 0] 28 (0, 0)) (by exact BK204.out) hb)
                     have n4_ := am (blk_below (g := gb209) (o := .cells #[.int .i64 x210000_2, u210001] 28 (0, 0)) (by exact BK209.out) hb)
                     have n5_ := am (below_step (by repeat ((with_reducible exact HB.out))) hb)
                     have n6_ := am (hbox)
                     have n7_ := am ((by rw [hg]; exact (below_size (by repeat ((with_reducible exact HB.out)))) : w.heap.size ≤ gb212))
                     have n8_ := am ((by rw [hg]; exact (below_size (by repeat ((with_reducible exact HB.out)))) : w.heap.size ≤ gb212))
                     have n9_ := am ((by rw [hg]; exact Nat.ne_of_lt (blk_lt (g := gb202) (o := .cells #[.int .i64 a0_0, .slice (some ad210) l0_1.length c0_1] 28 (0, 0)) (by exact BK202.out)) : gb202 ≠ gb212))
                     have n10_ := am ((by rw [hg]; exact Nat.ne_of_gt (blk_lt (g := gb202) (o := .cells #[.int .i64 a0_0, .slice (some ad210) l0_1.length c0_1] 28 (0, 0)) (by exact BK202.out)) : gb212 ≠ gb202))
                     have n11_ := am ((by rw [hg]; exact Nat.ne_of_lt (blk_lt (g := gb203) (o := .cells #[.int .i64 a1_0, .slice (some ad211) l1_1.length c1_1] 28 (0, 0)) (by exact BK203.out)) : gb203 ≠ gb212))
                     have n12_ := am ((by rw [hg]; exact Nat.ne_of_gt (blk_lt (g := gb203) (o := .cells #[.int .i64 a1_0, .slice (some ad211) l1_1.length c1_1] 28 (0, 0)) (by exact BK203.out)) : gb212 ≠ gb203))
                     have n13_ := am ((by rw [hg]; exact Nat.ne_of_lt (blk_lt (g := gb204) (o := .cells #[.int .i64 x205000_2, .slice none 0 0] 28 (0, 0)) (by exact BK204.out)) : gb204 ≠ gb212))
                     have n14_ := am ((by rw [hg]; exact Nat.ne_of_gt (blk_lt (g := gb204) (o := .cells #[.int .i64 x205000_2, .slice none 0 0] 28 (0, 0)) (by exact BK204.out)) : gb212 ≠ gb204))
                     have n15_ := am ((by rw [hg]; exact Nat.ne_of_lt (blk_lt (g := gb209) (o := .cells #[.int .i64 x210000_2, u210001] 28 (0, 0)) (by exact BK209.out)) : gb209 ≠ gb212))
                     have n16_ := am ((by rw [hg]; exact Nat.ne_of_gt (blk_lt (g := gb209) (o := .cells #[.int .i64 x210000_2, u210001] 28 (0, 0)) (by exact BK209.out)) : gb212 ≠ gb209))
                     clear HO_210001
                     clear BK202
                     clear BK203
                     clear BK204
                     clear BK209
                     clear HB
                     have HO_210001 := n0_
                     have BK202 := n1_
                     have BK203 := n2_
                     have BK204 := n3_
                     have BK209 := n4_
                     have HB := n5_
                     have BK212 := n6_
                     have GW212 := n7_
                     have GE212 := n8_
                     have NB202_212 := n9_
                     have NB212_202 := n10_
                     have NB203_212 := n11_
                     have NB212_203 := n12_
                     have NB204_212 := n13_
                     have NB212_204 := n14_
                     have NB209_212 := n15_
                     have NB212_209 := n16_
                     clear n0_ n1_ n2_ n3_ n4_ n5_ n6_ n7_ n8_ n9_ n10_ n11_ n12_ n13_ n14_ n15_ n16_
                     clear hb hbox hg
                     refine hK.out _ _ ⟨(blk_cell BK202.out 0).trans rfl, (blk_cell BK202.out 1).trans rfl, (blk_cell BK203.out 0).trans rfl, (blk_cell BK203.out 1).trans rfl, ((HB.out.cell (World.block_lt_of_cell? w _ hw210_0)).trans hw210_0), ((HB.out.cell (World.block_lt_of_cell? w _ hw210_1)).trans hw210_1), ((HB.out.cell (World.block_lt_of_cell? w _ hw211_0)).trans hw211_0), ((HB.out.cell (World.block_lt_of_cell? w _ hw211_1)).trans hw211_1)⟩ (fun hHeld => ?_)
                     clear hK K
                     refine norm_ (a' := ?_) ?_ ?_; rotate_left; show Act.put _ (some 9) _ = _; simp only [Act.put, q1, q2, q3, i64_w, i32_w]; rfl
                     refine one_ (i := 11) (N := some 10) (bs 4095 14) rfl rfl (one_of HT_.out (by kernel_rfl)) (by decide) (fun K hK => ?_)
                     refine box_step ?hg (N := 10) ?hd (cs := #[.slice none 0 0, .int .i64 0]) (t := 65) ?hr ?_; (case hd => rfl); (case hg => rfl); (case hr => (go_simp; done))
                     intro gb213 hg w64 hbox hb
                     have n0_ := am (Kd.S_below (Kd.S_elderB (by (with_reducible repeat (apply Kd.S_drew)); exact HO_210001.out) gb213 (Nat.le_of_eq hg.symm)) hb)
                     have n1_ := am (blk_below (g := gb202) (o := .cells #[.int .i64 a0_0, .slice (some ad210) l0_1.length c0_1] 28 (0, 0)) (by exact BK202.out) hb)
                     have n2_ := am (blk_below (g := gb203) (o := .cells #[.int .i64 a1_0, .slice (some ad211) l1_1.length c1_1] 28 (0, 0)) (by exact BK203.out) hb)
                     have n3_ := am (blk_below (g := gb204) (o := .cells #[.int .i64 x205000_2, .slice none 0 0] 28 (0, 0)) (by exact BK204.out) hb)
                     have n4_ := am (blk_below (g := gb209) (o := .cells #[.int .i64 x210000_2, u210001] 28 (0, 0)) (by exact BK209.out) hb)
                     have n5_ := am (blk_below (g := gb212) (o := .cells #[.slice none 0 0, .int .i64 0] 65 (0, 0)) (by exact BK212.out) hb)
                     have n6_ := am (below_step (by repeat ((with_reducible exact HB.out))) hb)
                     have n7_ := am (hbox)
                     have n8_ := am ((by rw [hg]; exact (below_size (by repeat ((with_reducible exact HB.out)))) : w.heap.size ≤ gb213))
                     have n9_ := am ((by rw [hg]; exact (below_size (by repeat ((with_reducible exact HB.out)))) : w.heap.size ≤ gb213))
                     have n10_ := am ((by rw [hg]; exact Nat.ne_of_lt (blk_lt (g := gb202) (o := .cells #[.int .i64 a0_0, .slice (some ad210) l0_1.length c0_1] 28 (0, 0)) (by exact BK202.out)) : gb202 ≠ gb213))
                     have n11_ := am ((by rw [hg]; exact Nat.ne_of_gt (blk_lt (g := gb202) (o := .cells #[.int .i64 a0_0, .slice (some ad210) l0_1.length c0_1] 28 (0, 0)) (by exact BK202.out)) : gb213 ≠ gb202))
                     have n12_ := am ((by rw [hg]; exact Nat.ne_of_lt (blk_lt (g := gb203) (o := .cells #[.int .i64 a1_0, .slice (some ad211) l1_1.length c1_1] 28 (0, 0)) (by exact BK203.out)) : gb203 ≠ gb213))
                     have n13_ := am ((by rw [hg]; exact Nat.ne_of_gt (blk_lt (g := gb203) (o := .cells #[.int .i64 a1_0, .slice (some ad211) l1_1.length c1_1] 28 (0, 0)) (by exact BK203.out)) : gb213 ≠ gb203))
                     have n14_ := am ((by rw [hg]; exact Nat.ne_of_lt (blk_lt (g := gb204) (o := .cells #[.int .i64 x205000_2, .slice none 0 0] 28 (0, 0)) (by exact BK204.out)) : gb204 ≠ gb213))
                     have n15_ := am ((by rw [hg]; exact Nat.ne_of_gt (blk_lt (g := gb204) (o := .cells #[.int .i64 x205000_2, .slice none 0 0] 28 (0, 0)) (by exact BK204.out)) : gb213 ≠ gb204))
                     have n16_ := am ((by rw [hg]; exact Nat.ne_of_lt (blk_lt (g := gb209) (o := .cells #[.int .i64 x210000_2, u210001] 28 (0, 0)) (by exact BK209.out)) : gb209 ≠ gb213))
                     have n17_ := am ((by rw [hg]; exact Nat.ne_of_gt (blk_lt (g := gb209) (o := .cells #[.int .i64 x210000_2, u210001] 28 (0, 0)) (by exact BK209.out)) : gb213 ≠ gb209))
                     have n18_ := am ((by rw [hg]; exact Nat.ne_of_lt (blk_lt (g := gb212) (o := .cells #[.slice none 0 0, .int .i64 0] 65 (0, 0)) (by exact BK212.out)) : gb212 ≠ gb213))
                     have n19_ := am ((by rw [hg]; exact Nat.ne_of_gt (blk_lt (g := gb212) (o := .cells #[.slice none 0 0, .int .i64 0] 65 (0, 0)) (by exact BK212.out)) : gb213 ≠ gb212))
                     clear HO_210001
                     clear BK202
                     clear BK203
                     clear BK204
                     clear BK209
                     clear BK212
                     clear HB
                     have HO_210001 := n0_
                     have BK202 := n1_
                     have BK203 := n2_
                     have BK204 := n3_
                     have BK209 := n4_
                     have BK212 := n5_
                     have HB := n6_
                     have BK213 := n7_
                     have GW213 := n8_
                     have GE213 := n9_
                     have NB202_213 := n10_
                     have NB213_202 := n11_
                     have NB203_213 := n12_
                     have NB213_203 := n13_
                     have NB204_213 := n14_
                     have NB213_204 := n15_
                     have NB209_213 := n16_
                     have NB213_209 := n17_
                     have NB212_213 := n18_
                     have NB213_212 := n19_
                     clear n0_ n1_ n2_ n3_ n4_ n5_ n6_ n7_ n8_ n9_ n10_ n11_ n12_ n13_ n14_ n15_ n16_ n17_ n18_ n19_
                     clear hb hbox hg
                     refine hK.out _ _ ⟨(blk_cell BK202.out 0).trans rfl, (blk_cell BK202.out 1).trans rfl, (blk_cell BK203.out 0).trans rfl, (blk_cell BK203.out 1).trans rfl, ((HB.out.cell (World.block_lt_of_cell? w _ hw210_0)).trans hw210_0), ((HB.out.cell (World.block_lt_of_cell? w _ hw210_1)).trans hw210_1), ((HB.out.cell (World.block_lt_of_cell? w _ hw211_0)).trans hw211_0), ((HB.out.cell (World.block_lt_of_cell? w _ hw211_1)).trans hw211_1)⟩ (fun hHeld => ?_)
                     clear hK K
                     refine norm_ (a' := ?_) ?_ ?_; rotate_left; show Act.put _ (some 10) _ = _; simp only [Act.put, q1, q2, q3, i64_w, i32_w]; rfl
                     exact norm_ (by simp only [putAll, Act.put, q1, q2, q3]) (hCont (gb212, gb213) _ ⟨hHeld, (by (with_reducible repeat (apply Kd.S_drew)); exact Kd.S_mono HO_210001.out (fun _ hk => ⟨hk.1.2, hk.2⟩)), (by exact BK202.out), (by exact BK203.out), (by exact BK204.out), (by exact BK209.out), (by exact BK212.out), (by exact BK213.out), GW212.out, GE212.out, NB202_212.out, NB212_202.out, NB203_212.out, NB212_203.out, NB204_212.out, NB212_204.out, NB209_212.out, NB212_209.out, NB213_212.out, NB212_213.out, GW213.out, GE213.out, NB202_213.out, NB213_202.out, NB203_213.out, NB213_203.out, NB204_213.out, NB213_204.out, NB209_213.out, NB213_209.out, (by repeat ((with_reducible exact HB.out)))⟩)
                   · skip
                     refine box_step ?hg (N := 10) ?hd (cs := #[.slice none 0 0, .int .i64 0]) (t := 65) ?hr ?_; (case hd => rfl); (case hg => rfl); (case hr => (go_simp; done))
                     intro gb213 hg w63 hbox hb
                     have n0_ := am (Kd.S_below (Kd.S_elderB (by (with_reducible repeat (apply Kd.S_drew)); exact HO_210001.out) gb213 (Nat.le_of_eq hg.symm)) hb)
                     have n1_ := am (blk_below (g := gb202) (o := .cells #[.int .i64 a0_0, .slice (some ad210) l0_1.length c0_1] 28 (0, 0)) (by exact BK202.out) hb)
                     have n2_ := am (blk_below (g := gb203) (o := .cells #[.int .i64 a1_0, .slice (some ad211) l1_1.length c1_1] 28 (0, 0)) (by exact BK203.out) hb)
                     have n3_ := am (blk_below (g := gb204) (o := .cells #[.int .i64 x205000_2, .slice none 0 0] 28 (0, 0)) (by exact BK204.out) hb)
                     have n4_ := am (blk_below (g := gb209) (o := .cells #[.int .i64 x210000_2, u210001] 28 (0, 0)) (by exact BK209.out) hb)
                     have n5_ := am (below_step (by repeat ((with_reducible exact HB.out))) hb)
                     have n6_ := am (hbox)
                     have n7_ := am ((by rw [hg]; exact (below_size (by repeat ((with_reducible exact HB.out)))) : w.heap.size ≤ gb213))
                     have n8_ := am ((by rw [hg]; exact (below_size (by repeat ((with_reducible exact HB.out)))) : w.heap.size ≤ gb213))
                     have n9_ := am ((by rw [hg]; exact Nat.ne_of_lt (blk_lt (g := gb202) (o := .cells #[.int .i64 a0_0, .slice (some ad210) l0_1.length c0_1] 28 (0, 0)) (by exact BK202.out)) : gb202 ≠ gb213))
                     have n10_ := am ((by rw [hg]; exact Nat.ne_of_gt (blk_lt (g := gb202) (o := .cells #[.int .i64 a0_0, .slice (some ad210) l0_1.length c0_1] 28 (0, 0)) (by exact BK202.out)) : gb213 ≠ gb202))
                     have n11_ := am ((by rw [hg]; exact Nat.ne_of_lt (blk_lt (g := gb203) (o := .cells #[.int .i64 a1_0, .slice (some ad211) l1_1.length c1_1] 28 (0, 0)) (by exact BK203.out)) : gb203 ≠ gb213))
                     have n12_ := am ((by rw [hg]; exact Nat.ne_of_gt (blk_lt (g := gb203) (o := .cells #[.int .i64 a1_0, .slice (some ad211) l1_1.length c1_1] 28 (0, 0)) (by exact BK203.out)) : gb213 ≠ gb203))
                     have n13_ := am ((by rw [hg]; exact Nat.ne_of_lt (blk_lt (g := gb204) (o := .cells #[.int .i64 x205000_2, .slice none 0 0] 28 (0, 0)) (by exact BK204.out)) : gb204 ≠ gb213))
                     have n14_ := am ((by rw [hg]; exact Nat.ne_of_gt (blk_lt (g := gb204) (o := .cells #[.int .i64 x205000_2, .slice none 0 0] 28 (0, 0)) (by exact BK204.out)) : gb213 ≠ gb204))
                     have n15_ := am ((by rw [hg]; exact Nat.ne_of_lt (blk_lt (g := gb209) (o := .cells #[.int .i64 x210000_2, u210001] 28 (0, 0)) (by exact BK209.out)) : gb209 ≠ gb213))
                     have n16_ := am ((by rw [hg]; exact Nat.ne_of_gt (blk_lt (g := gb209) (o := .cells #[.int .i64 x210000_2, u210001] 28 (0, 0)) (by exact BK209.out)) : gb213 ≠ gb209))
                     clear HO_210001
                     clear BK202
                     clear BK203
                     clear BK204
                     clear BK209
                     clear HB
                     have HO_210001 := n0_
                     have BK202 := n1_
                     have BK203 := n2_
                     have BK204 := n3_
                     have BK209 := n4_
                     have HB := n5_
                     have BK213 := n6_
                     have GW213 := n7_
                     have GE213 := n8_
                     have NB202_213 := n9_
                     have NB213_202 := n10_
                     have NB203_213 := n11_
                     have NB213_203 := n12_
                     have NB204_213 := n13_
                     have NB213_204 := n14_
                     have NB209_213 := n15_
                     have NB213_209 := n16_
                     clear n0_ n1_ n2_ n3_ n4_ n5_ n6_ n7_ n8_ n9_ n10_ n11_ n12_ n13_ n14_ n15_ n16_
                     clear hb hbox hg
                     refine hK.out _ _ ⟨(blk_cell BK202.out 0).trans rfl, (blk_cell BK202.out 1).trans rfl, (blk_cell BK203.out 0).trans rfl, (blk_cell BK203.out 1).trans rfl, ((HB.out.cell (World.block_lt_of_cell? w _ hw210_0)).trans hw210_0), ((HB.out.cell (World.block_lt_of_cell? w _ hw210_1)).trans hw210_1), ((HB.out.cell (World.block_lt_of_cell? w _ hw211_0)).trans hw211_0), ((HB.out.cell (World.block_lt_of_cell? w _ hw211_1)).trans hw211_1)⟩ (fun hHeld => ?_)
                     clear hK K
                     refine norm_ (a' := ?_) ?_ ?_; rotate_left; show Act.put _ (some 10) _ = _; simp only [Act.put, q1, q2, q3, i64_w, i32_w]; rfl
                     refine one_ (i := 10) (N := some 9) (bs 4095 14) rfl rfl (one_of HT_.out (by kernel_rfl)) (by decide) (fun K hK => ?_)
                     refine box_step ?hg (N := 9) ?hd (cs := #[.slice none 0 0, .int .i64 0]) (t := 65) ?hr ?_; (case hd => rfl); (case hg => rfl); (case hr => (go_simp; done))
                     intro gb212 hg w64 hbox hb
                     have n0_ := am (Kd.S_below (Kd.S_elderB (by (with_reducible repeat (apply Kd.S_drew)); exact HO_210001.out) gb212 (Nat.le_of_eq hg.symm)) hb)
                     have n1_ := am (blk_below (g := gb202) (o := .cells #[.int .i64 a0_0, .slice (some ad210) l0_1.length c0_1] 28 (0, 0)) (by exact BK202.out) hb)
                     have n2_ := am (blk_below (g := gb203) (o := .cells #[.int .i64 a1_0, .slice (some ad211) l1_1.length c1_1] 28 (0, 0)) (by exact BK203.out) hb)
                     have n3_ := am (blk_below (g := gb204) (o := .cells #[.int .i64 x205000_2, .slice none 0 0] 28 (0, 0)) (by exact BK204.out) hb)
                     have n4_ := am (blk_below (g := gb209) (o := .cells #[.int .i64 x210000_2, u210001] 28 (0, 0)) (by exact BK209.out) hb)
                     have n5_ := am (blk_below (g := gb213) (o := .cells #[.slice none 0 0, .int .i64 0] 65 (0, 0)) (by exact BK213.out) hb)
                     have n6_ := am (below_step (by repeat ((with_reducible exact HB.out))) hb)
                     have n7_ := am (hbox)
                     have n8_ := am ((by rw [hg]; exact (below_size (by repeat ((with_reducible exact HB.out)))) : w.heap.size ≤ gb212))
                     have n9_ := am ((by rw [hg]; exact (below_size (by repeat ((with_reducible exact HB.out)))) : w.heap.size ≤ gb212))
                     have n10_ := am ((by rw [hg]; exact Nat.ne_of_lt (blk_lt (g := gb202) (o := .cells #[.int .i64 a0_0, .slice (some ad210) l0_1.length c0_1] 28 (0, 0)) (by exact BK202.out)) : gb202 ≠ gb212))
                     have n11_ := am ((by rw [hg]; exact Nat.ne_of_gt (blk_lt (g := gb202) (o := .cells #[.int .i64 a0_0, .slice (some ad210) l0_1.length c0_1] 28 (0, 0)) (by exact BK202.out)) : gb212 ≠ gb202))
                     have n12_ := am ((by rw [hg]; exact Nat.ne_of_lt (blk_lt (g := gb203) (o := .cells #[.int .i64 a1_0, .slice (some ad211) l1_1.length c1_1] 28 (0, 0)) (by exact BK203.out)) : gb203 ≠ gb212))
                     have n13_ := am ((by rw [hg]; exact Nat.ne_of_gt (blk_lt (g := gb203) (o := .cells #[.int .i64 a1_0, .slice (some ad211) l1_1.length c1_1] 28 (0, 0)) (by exact BK203.out)) : gb212 ≠ gb203))
                     have n14_ := am ((by rw [hg]; exact Nat.ne_of_lt (blk_lt (g := gb204) (o := .cells #[.int .i64 x205000_2, .slice none 0 0] 28 (0, 0)) (by exact BK204.out)) : gb204 ≠ gb212))
                     have n15_ := am ((by rw [hg]; exact Nat.ne_of_gt (blk_lt (g := gb204) (o := .cells #[.int .i64 x205000_2, .slice none 0 0] 28 (0, 0)) (by exact BK204.out)) : gb212 ≠ gb204))
                     have n16_ := am ((by rw [hg]; exact Nat.ne_of_lt (blk_lt (g := gb209) (o := .cells #[.int .i64 x210000_2, u210001] 28 (0, 0)) (by exact BK209.out)) : gb209 ≠ gb212))
                     have n17_ := am ((by rw [hg]; exact Nat.ne_of_gt (blk_lt (g := gb209) (o := .cells #[.int .i64 x210000_2, u210001] 28 (0, 0)) (by exact BK209.out)) : gb212 ≠ gb209))
                     have n18_ := am ((by rw [hg]; exact Nat.ne_of_lt (blk_lt (g := gb213) (o := .cells #[.slice none 0 0, .int .i64 0] 65 (0, 0)) (by exact BK213.out)) : gb213 ≠ gb212))
                     have n19_ := am ((by rw [hg]; exact Nat.ne_of_gt (blk_lt (g := gb213) (o := .cells #[.slice none 0 0, .int .i64 0] 65 (0, 0)) (by exact BK213.out)) : gb212 ≠ gb213))
                     clear HO_210001
                     clear BK202
                     clear BK203
                     clear BK204
                     clear BK209
                     clear BK213
                     clear HB
                     have HO_210001 := n0_
                     have BK202 := n1_
                     have BK203 := n2_
                     have BK204 := n3_
                     have BK209 := n4_
                     have BK213 := n5_
                     have HB := n6_
                     have BK212 := n7_
                     have GW212 := n8_
                     have GE212 := n9_
                     have NB202_212 := n10_
                     have NB212_202 := n11_
                     have NB203_212 := n12_
                     have NB212_203 := n13_
                     have NB204_212 := n14_
                     have NB212_204 := n15_
                     have NB209_212 := n16_
                     have NB212_209 := n17_
                     have NB213_212 := n18_
                     have NB212_213 := n19_
                     clear n0_ n1_ n2_ n3_ n4_ n5_ n6_ n7_ n8_ n9_ n10_ n11_ n12_ n13_ n14_ n15_ n16_ n17_ n18_ n19_
                     clear hb hbox hg
                     refine hK.out _ _ ⟨(blk_cell BK202.out 0).trans rfl, (blk_cell BK202.out 1).trans rfl, (blk_cell BK203.out 0).trans rfl, (blk_cell BK203.out 1).trans rfl, ((HB.out.cell (World.block_lt_of_cell? w _ hw210_0)).trans hw210_0), ((HB.out.cell (World.block_lt_of_cell? w _ hw210_1)).trans hw210_1), ((HB.out.cell (World.block_lt_of_cell? w _ hw211_0)).trans hw211_0), ((HB.out.cell (World.block_lt_of_cell? w _ hw211_1)).trans hw211_1)⟩ (fun hHeld => ?_)
                     clear hK K
                     refine norm_ (a' := ?_) ?_ ?_; rotate_left; show Act.put _ (some 9) _ = _; simp only [Act.put, q1, q2, q3, i64_w, i32_w]; rfl
                     exact norm_ (by simp only [putAll, Act.put, q1, q2, q3]) (hCont (gb212, gb213) _ ⟨hHeld, (by (with_reducible repeat (apply Kd.S_drew)); exact Kd.S_mono HO_210001.out (fun _ hk => ⟨hk.2, hk.1.2⟩)), (by exact BK202.out), (by exact BK203.out), (by exact BK204.out), (by exact BK209.out), (by exact BK212.out), (by exact BK213.out), GW212.out, GE212.out, NB202_212.out, NB212_202.out, NB203_212.out, NB212_203.out, NB204_212.out, NB212_204.out, NB209_212.out, NB212_209.out, NB213_212.out, NB212_213.out, GW213.out, GE213.out, NB202_213.out, NB213_202.out, NB203_213.out, NB213_203.out, NB204_213.out, NB213_204.out, NB209_213.out, NB213_209.out, (by repeat ((with_reducible exact HB.out)))⟩)
                 rintro ⟨gb212, gb213⟩ w65 ⟨hS_, h0_, h1_, h2_, h3_, h4_, h5_, h6_, h7_, h8_, h9_, h10_, h11_, h12_, h13_, h14_, h15_, h16_, h17_, h18_, h19_, h20_, h21_, h22_, h23_, h24_, h25_, h26_, h27_, h28_, h29_⟩
                 have n0_ : Aside0 (Kd.S k65 65 w65 w.heap.size (fun k_ => k_ ≠ gb212 ∧ k_ ≠ gb213) u210001 x210001_2) := ⟨h0_⟩
                 have n1_ : Aside0 (w65.heap[gb202]? = some (.cells #[.int .i64 a0_0, .slice (some ad210) l0_1.length c0_1] 28 (0, 0))) := ⟨h1_⟩
                 have n2_ : Aside0 (w65.heap[gb203]? = some (.cells #[.int .i64 a1_0, .slice (some ad211) l1_1.length c1_1] 28 (0, 0))) := ⟨h2_⟩
                 have n3_ : Aside0 (w65.heap[gb204]? = some (.cells #[.int .i64 x205000_2, .slice none 0 0] 28 (0, 0))) := ⟨h3_⟩
                 have n4_ : Aside0 (w65.heap[gb209]? = some (.cells #[.int .i64 x210000_2, u210001] 28 (0, 0))) := ⟨h4_⟩
                 have n5_ : Aside0 (w65.heap[gb212]? = some (.cells #[.slice none 0 0, .int .i64 0] 65 (0, 0))) := ⟨h5_⟩
                 have n6_ : Aside0 (w65.heap[gb213]? = some (.cells #[.slice none 0 0, .int .i64 0] 65 (0, 0))) := ⟨h6_⟩
                 have n7_ : Aside0 (w.heap.size ≤ gb212) := ⟨h7_⟩
                 have n8_ : Aside0 (w.heap.size ≤ gb212) := ⟨h8_⟩
                 have n9_ : Aside0 (gb202 ≠ gb212) := ⟨h9_⟩
                 have n10_ : Aside0 (gb212 ≠ gb202) := ⟨h10_⟩
                 have n11_ : Aside0 (gb203 ≠ gb212) := ⟨h11_⟩
                 have n12_ : Aside0 (gb212 ≠ gb203) := ⟨h12_⟩
                 have n13_ : Aside0 (gb204 ≠ gb212) := ⟨h13_⟩
                 have n14_ : Aside0 (gb212 ≠ gb204) := ⟨h14_⟩
                 have n15_ : Aside0 (gb209 ≠ gb212) := ⟨h15_⟩
                 have n16_ : Aside0 (gb212 ≠ gb209) := ⟨h16_⟩
                 have n17_ : Aside0 (gb213 ≠ gb212) := ⟨h17_⟩
                 have n18_ : Aside0 (gb212 ≠ gb213) := ⟨h18_⟩
                 have n19_ : Aside0 (w.heap.size ≤ gb213) := ⟨h19_⟩
                 have n20_ : Aside0 (w.heap.size ≤ gb213) := ⟨h20_⟩
                 have n21_ : Aside0 (gb202 ≠ gb213) := ⟨h21_⟩
                 have n22_ : Aside0 (gb213 ≠ gb202) := ⟨h22_⟩
                 have n23_ : Aside0 (gb203 ≠ gb213) := ⟨h23_⟩
                 have n24_ : Aside0 (gb213 ≠ gb203) := ⟨h24_⟩
                 have n25_ : Aside0 (gb204 ≠ gb213) := ⟨h25_⟩
                 have n26_ : Aside0 (gb213 ≠ gb204) := ⟨h26_⟩
                 have n27_ : Aside0 (gb209 ≠ gb213) := ⟨h27_⟩
                 have n28_ : Aside0 (gb213 ≠ gb209) := ⟨h28_⟩
                 have n29_ : Aside0 (Below w.heap.size w w65) := ⟨h29_⟩
                 clear HO_210001
                 clear BK202
                 clear BK203
                 clear BK204
                 clear BK209
                 clear HB
                 clear h0_ h1_ h2_ h3_ h4_ h5_ h6_ h7_ h8_ h9_ h10_ h11_ h12_ h13_ h14_ h15_ h16_ h17_ h18_ h19_ h20_ h21_ h22_ h23_ h24_ h25_ h26_ h27_ h28_ h29_
                 have HO_210001 := n0_
                 have BK202 := n1_
                 have BK203 := n2_
                 have BK204 := n3_
                 have BK209 := n4_
                 have BK212 := n5_
                 have BK213 := n6_
                 have GW212 := n7_
                 have GE212 := n8_
                 have NB202_212 := n9_
                 have NB212_202 := n10_
                 have NB203_212 := n11_
                 have NB212_203 := n12_
                 have NB204_212 := n13_
                 have NB212_204 := n14_
                 have NB209_212 := n15_
                 have NB212_209 := n16_
                 have NB213_212 := n17_
                 have NB212_213 := n18_
                 have GW213 := n19_
                 have GE213 := n20_
                 have NB202_213 := n21_
                 have NB213_202 := n22_
                 have NB203_213 := n23_
                 have NB213_203 := n24_
                 have NB204_213 := n25_
                 have NB213_204 := n26_
                 have NB209_213 := n27_
                 have NB213_209 := n28_
                 have HB := n29_
                 clear n0_ n1_ n2_ n3_ n4_ n5_ n6_ n7_ n8_ n9_ n10_ n11_ n12_ n13_ n14_ n15_ n16_ n17_ n18_ n19_ n20_ n21_ n22_ n23_ n24_ n25_ n26_ n27_ n28_ n29_
                 have hHeld : w65.cell? ⟨gb202, 0, none⟩ = some (.int .i64 a0_0) ∧ w65.cell? ⟨gb202, 1, none⟩ = some (.slice (some ad210) l0_1.length c0_1) ∧ w65.cell? ⟨gb203, 0, none⟩ = some (.int .i64 a1_0) ∧ w65.cell? ⟨gb203, 1, none⟩ = some (.slice (some ad211) l1_1.length c1_1) ∧ w65.cell? (ad210.add ((x7_1).toNat * 2)) = some (.slice A210_0 ((rd_T65 l0_1 x7_1).f0).length c210_0) ∧ w65.cell? ⟨(ad210.add ((x7_1).toNat * 2)).block, (ad210.add ((x7_1).toNat * 2)).off + 1, none⟩ = some (.int .i64 ((rd_T65 l0_1 x7_1).f1)) ∧ w65.cell? (ad211.add ((x8_2).toNat * 2)) = some (.slice A211_0 ((rd_T65 l1_1 x8_2).f0).length c211_0) ∧ w65.cell? ⟨(ad211.add ((x8_2).toNat * 2)).block, (ad211.add ((x8_2).toNat * 2)).off + 1, none⟩ = some (.int .i64 ((rd_T65 l1_1 x8_2).f1)) := hS_
                 refine norm_ (a' := ?_) ?_ ?_; rotate_left; simp only [putAll, Act.put, q1, q2, q3]; rfl
                 refine one_ (i := 12) (N := none) (bs 8191 14) rfl rfl (one_of HT_.out (by kernel_rfl)) (by decide) (fun K hK => ?_)
                 have hs66 : w65.cell? ⟨gb212, 0, none⟩ = some (.slice none 0 0) := (blk_cell BK212.out 0).trans rfl
                 have hfs66 := blk_frozen BK212.out 0
                 have hns66_0 := NB202_212.out
                 have hns66_1 := NB203_212.out
                 have hns66_2 := NB204_212.out
                 have hns66_3 := NB209_212.out
                 have hns66_5 := NB213_212.out
                 have hms66_0 := NB212_202.out
                 have hms66_1 := NB212_203.out
                 have hms66_2 := NB212_204.out
                 have hms66_3 := NB212_209.out
                 have hms66_5 := NB212_213.out
                 have hs67 : w65.cell? ⟨gb212, 1, none⟩ = some (.int .i64 0) := (blk_cell BK212.out 1).trans rfl
                 have hfs67 := blk_frozen BK212.out 1
                 have hns67_0 := NB202_212.out
                 have hns67_1 := NB203_212.out
                 have hns67_2 := NB204_212.out
                 have hns67_3 := NB209_212.out
                 have hns67_5 := NB213_212.out
                 have hms67_0 := NB212_202.out
                 have hms67_1 := NB212_203.out
                 have hms67_2 := NB212_204.out
                 have hms67_3 := NB212_209.out
                 have hms67_5 := NB212_213.out
                 refine skip_ (w1 := ?_) (by rfl) rfl ?_ ?_
                 rotate_left
                 · go_simp
                   rfl
                 refine hK.out _ _ ⟨((cell_far (p := ⟨gb212, _, none⟩) NB202_212.out _).trans (((cell_far (p := ⟨gb212, _, none⟩) NB202_212.out _).trans (hHeld.1)))), ((cell_far (p := ⟨gb212, _, none⟩) NB202_212.out _).trans (((cell_far (p := ⟨gb212, _, none⟩) NB202_212.out _).trans (hHeld.2.1)))), ((cell_far (p := ⟨gb212, _, none⟩) NB203_212.out _).trans (((cell_far (p := ⟨gb212, _, none⟩) NB203_212.out _).trans (hHeld.2.2.1)))), ((cell_far (p := ⟨gb212, _, none⟩) NB203_212.out _).trans (((cell_far (p := ⟨gb212, _, none⟩) NB203_212.out _).trans (hHeld.2.2.2.1)))), ((cell_far (p := ⟨gb212, _, none⟩) (by exact Nat.ne_of_lt (Nat.lt_of_lt_of_le (by have := World.block_lt_of_cell? _ _ hw210_0; exact this) GW212.out)) _).trans (((cell_far (p := ⟨gb212, _, none⟩) (by exact Nat.ne_of_lt (Nat.lt_of_lt_of_le (by have := World.block_lt_of_cell? _ _ hw210_0; exact this) GW212.out)) _).trans (hHeld.2.2.2.2.1)))), ((cell_far (p := ⟨gb212, _, none⟩) (by exact Nat.ne_of_lt (Nat.lt_of_lt_of_le (by have := World.block_lt_of_cell? _ _ hw210_1; exact this) GW212.out)) _).trans (((cell_far (p := ⟨gb212, _, none⟩) (by exact Nat.ne_of_lt (Nat.lt_of_lt_of_le (by have := World.block_lt_of_cell? _ _ hw210_1; exact this) GW212.out)) _).trans (hHeld.2.2.2.2.2.1)))), ((cell_far (p := ⟨gb212, _, none⟩) (by exact Nat.ne_of_lt (Nat.lt_of_lt_of_le (by have := World.block_lt_of_cell? _ _ hw211_0; exact this) GW212.out)) _).trans (((cell_far (p := ⟨gb212, _, none⟩) (by exact Nat.ne_of_lt (Nat.lt_of_lt_of_le (by have := World.block_lt_of_cell? _ _ hw211_0; exact this) GW212.out)) _).trans (hHeld.2.2.2.2.2.2.1)))), ((cell_far (p := ⟨gb212, _, none⟩) (by exact Nat.ne_of_lt (Nat.lt_of_lt_of_le (by have := World.block_lt_of_cell? _ _ hw211_1; exact this) GW212.out)) _).trans (((cell_far (p := ⟨gb212, _, none⟩) (by exact Nat.ne_of_lt (Nat.lt_of_lt_of_le (by have := World.block_lt_of_cell? _ _ hw211_1; exact this) GW212.out)) _).trans (hHeld.2.2.2.2.2.2.2))))⟩ (fun hHeld => ?_)
                 clear hK K
                 refine one_ (i := 13) (N := none) (bs 16383 14) rfl rfl (one_of HT_.out (by kernel_rfl)) (by decide) (fun K hK => ?_)
                 have hs68 : w65.cell? ⟨gb213, 0, none⟩ = some (.slice none 0 0) := (blk_cell BK213.out 0).trans rfl
                 have hfs68 := blk_frozen BK213.out 0
                 have hns68_0 := NB202_213.out
                 have hns68_1 := NB203_213.out
                 have hns68_2 := NB204_213.out
                 have hns68_3 := NB209_213.out
                 have hns68_4 := NB212_213.out
                 have hms68_0 := NB213_202.out
                 have hms68_1 := NB213_203.out
                 have hms68_2 := NB213_204.out
                 have hms68_3 := NB213_209.out
                 have hms68_4 := NB213_212.out
                 have hs69 : w65.cell? ⟨gb213, 1, none⟩ = some (.int .i64 0) := (blk_cell BK213.out 1).trans rfl
                 have hfs69 := blk_frozen BK213.out 1
                 have hns69_0 := NB202_213.out
                 have hns69_1 := NB203_213.out
                 have hns69_2 := NB204_213.out
                 have hns69_3 := NB209_213.out
                 have hns69_4 := NB212_213.out
                 have hms69_0 := NB213_202.out
                 have hms69_1 := NB213_203.out
                 have hms69_2 := NB213_204.out
                 have hms69_3 := NB213_209.out
                 have hms69_4 := NB213_212.out
                 refine skip_ (w1 := ?_) (by rfl) rfl ?_ ?_
                 rotate_left
                 · go_simp
                   rfl
                 refine hK.out _ _ ⟨((cell_far (p := ⟨gb213, _, none⟩) NB202_213.out _).trans (((cell_far (p := ⟨gb213, _, none⟩) NB202_213.out _).trans (hHeld.1)))), ((cell_far (p := ⟨gb213, _, none⟩) NB202_213.out _).trans (((cell_far (p := ⟨gb213, _, none⟩) NB202_213.out _).trans (hHeld.2.1)))), ((cell_far (p := ⟨gb213, _, none⟩) NB203_213.out _).trans (((cell_far (p := ⟨gb213, _, none⟩) NB203_213.out _).trans (hHeld.2.2.1)))), ((cell_far (p := ⟨gb213, _, none⟩) NB203_213.out _).trans (((cell_far (p := ⟨gb213, _, none⟩) NB203_213.out _).trans (hHeld.2.2.2.1)))), ((cell_far (p := ⟨gb213, _, none⟩) (by exact Nat.ne_of_lt (Nat.lt_of_lt_of_le (by have := World.block_lt_of_cell? _ _ hw210_0; exact this) GW213.out)) _).trans (((cell_far (p := ⟨gb213, _, none⟩) (by exact Nat.ne_of_lt (Nat.lt_of_lt_of_le (by have := World.block_lt_of_cell? _ _ hw210_0; exact this) GW213.out)) _).trans (hHeld.2.2.2.2.1)))), ((cell_far (p := ⟨gb213, _, none⟩) (by exact Nat.ne_of_lt (Nat.lt_of_lt_of_le (by have := World.block_lt_of_cell? _ _ hw210_1; exact this) GW213.out)) _).trans (((cell_far (p := ⟨gb213, _, none⟩) (by exact Nat.ne_of_lt (Nat.lt_of_lt_of_le (by have := World.block_lt_of_cell? _ _ hw210_1; exact this) GW213.out)) _).trans (hHeld.2.2.2.2.2.1)))), ((cell_far (p := ⟨gb213, _, none⟩) (by exact Nat.ne_of_lt (Nat.lt_of_lt_of_le (by have := World.block_lt_of_cell? _ _ hw211_0; exact this) GW213.out)) _).trans (((cell_far (p := ⟨gb213, _, none⟩) (by exact Nat.ne_of_lt (Nat.lt_of_lt_of_le (by have := World.block_lt_of_cell? _ _ hw211_0; exact this) GW213.out)) _).trans (hHeld.2.2.2.2.2.2.1)))), ((cell_far (p := ⟨gb213, _, none⟩) (by exact Nat.ne_of_lt (Nat.lt_of_lt_of_le (by have := World.block_lt_of_cell? _ _ hw211_1; exact this) GW213.out)) _).trans (((cell_far (p := ⟨gb213, _, none⟩) (by exact Nat.ne_of_lt (Nat.lt_of_lt_of_le (by have := World.block_lt_of_cell? _ _ hw211_1; exact this) GW213.out)) _).trans (hHeld.2.2.2.2.2.2.2))))⟩ (fun hHeld => ?_)
                 clear hK K
                 refine done_ (done_of HT_.out (by kernel_rfl)) ?_
                 have hnb70 := NB212_202.out
                 have hnc70 := NB202_212.out
                 have hnb71 := NB212_203.out
                 have hnc71 := NB203_212.out
                 have hnb72 := NB212_204.out
                 have hnc72 := NB204_212.out
                 have hnb73 := NB212_209.out
                 have hnc73 := NB209_212.out
                 have hnb74 := NB212_213.out
                 have hnc74 := NB213_212.out
                 have hcz75_0 : w65.cell? ⟨gb212, 0, none⟩ = some (.slice none 0 0) := (blk_cell BK212.out 0).trans rfl
                 have hcz75_1 : w65.cell? ⟨gb212, 1, none⟩ = some (.int .i64 0) := (blk_cell BK212.out 1).trans rfl
                 have hfz75_0 := blk_frozen BK212.out 0
                 have hfz75_1 := blk_frozen BK212.out 1
                 have hnb76 := NB213_202.out
                 have hnc76 := NB202_213.out
                 have hnb77 := NB213_203.out
                 have hnc77 := NB203_213.out
                 have hnb78 := NB213_204.out
                 have hnc78 := NB204_213.out
                 have hnb79 := NB213_209.out
                 have hnc79 := NB209_213.out
                 have hcz80_0 : w65.cell? ⟨gb213, 0, none⟩ = some (.slice none 0 0) := (blk_cell BK213.out 0).trans rfl
                 have hcz80_1 : w65.cell? ⟨gb213, 1, none⟩ = some (.int .i64 0) := (blk_cell BK213.out 1).trans rfl
                 have hfz80_0 := blk_frozen BK213.out 0
                 have hfz80_1 := blk_frozen BK213.out 1
                 try go_wp2
                 have n0_ : Aside0 (Kd.S k65 65 ((((w65.setCell ⟨gb212, 0, none⟩ (.slice A210_0 ((rd_T65 l0_1 x7_1).f0).length c210_0)).setCell ⟨gb212, 1, none⟩ (.int .i64 ((rd_T65 l0_1 x7_1).f1))).setCell ⟨gb213, 0, none⟩ (.slice A211_0 ((rd_T65 l1_1 x8_2).f0).length c211_0)).setCell ⟨gb213, 1, none⟩ (.int .i64 ((rd_T65 l1_1 x8_2).f1))) w.heap.size (fun k_ => k_ ≠ gb212 ∧ k_ ≠ gb213) u210001 x210001_2) := ⟨by (with_reducible repeat (apply Kd.S_drew)); exact Kd.S_mono (Kd.S_far (p := ⟨gb213, 1, none⟩) (Kd.S_far (p := ⟨gb213, 0, none⟩) (Kd.S_far (p := ⟨gb212, 1, none⟩) (Kd.S_far (p := ⟨gb212, 0, none⟩) (Kd.S_mono (Kd.S_mono HO_210001.out (fun k_ hk => (⟨hk, hk.1⟩ : _ ∧ k_ ≠ gb212))) (fun k_ hk => (⟨hk, hk.1.2⟩ : _ ∧ k_ ≠ gb213))) (fun _ hk => hk.1.2) (.slice A210_0 ((rd_T65 l0_1 x7_1).f0).length c210_0)) (fun _ hk => hk.1.2) (.int .i64 ((rd_T65 l0_1 x7_1).f1))) (fun _ hk => hk.2) (.slice A211_0 ((rd_T65 l1_1 x8_2).f0).length c211_0)) (fun _ hk => hk.2) (.int .i64 ((rd_T65 l1_1 x8_2).f1))) (fun _ hk => ⟨hk.1.1.1, hk.1.1.2⟩)⟩
                 have n1_ : Aside0 (((((w65.setCell ⟨gb212, 0, none⟩ (.slice A210_0 ((rd_T65 l0_1 x7_1).f0).length c210_0)).setCell ⟨gb212, 1, none⟩ (.int .i64 ((rd_T65 l0_1 x7_1).f1))).setCell ⟨gb213, 0, none⟩ (.slice A211_0 ((rd_T65 l1_1 x8_2).f0).length c211_0)).setCell ⟨gb213, 1, none⟩ (.int .i64 ((rd_T65 l1_1 x8_2).f1))).heap[gb202]? = some (.cells #[.int .i64 a0_0, .slice (some ad210) l0_1.length c0_1] 28 (0, 0))) := ⟨by (with_reducible repeat (refine blk_drew ?_)); refine blk_far ?_ NB202_213.out _; (with_reducible repeat (refine blk_drew ?_)); refine blk_far ?_ NB202_213.out _; (with_reducible repeat (refine blk_drew ?_)); refine blk_far ?_ NB202_212.out _; (with_reducible repeat (refine blk_drew ?_)); refine blk_far ?_ NB202_212.out _; (with_reducible repeat (refine blk_drew ?_)); exact BK202.out⟩
                 have n2_ : Aside0 (((((w65.setCell ⟨gb212, 0, none⟩ (.slice A210_0 ((rd_T65 l0_1 x7_1).f0).length c210_0)).setCell ⟨gb212, 1, none⟩ (.int .i64 ((rd_T65 l0_1 x7_1).f1))).setCell ⟨gb213, 0, none⟩ (.slice A211_0 ((rd_T65 l1_1 x8_2).f0).length c211_0)).setCell ⟨gb213, 1, none⟩ (.int .i64 ((rd_T65 l1_1 x8_2).f1))).heap[gb203]? = some (.cells #[.int .i64 a1_0, .slice (some ad211) l1_1.length c1_1] 28 (0, 0))) := ⟨by (with_reducible repeat (refine blk_drew ?_)); refine blk_far ?_ NB203_213.out _; (with_reducible repeat (refine blk_drew ?_)); refine blk_far ?_ NB203_213.out _; (with_reducible repeat (refine blk_drew ?_)); refine blk_far ?_ NB203_212.out _; (with_reducible repeat (refine blk_drew ?_)); refine blk_far ?_ NB203_212.out _; (with_reducible repeat (refine blk_drew ?_)); exact BK203.out⟩
                 have n3_ : Aside0 (((((w65.setCell ⟨gb212, 0, none⟩ (.slice A210_0 ((rd_T65 l0_1 x7_1).f0).length c210_0)).setCell ⟨gb212, 1, none⟩ (.int .i64 ((rd_T65 l0_1 x7_1).f1))).setCell ⟨gb213, 0, none⟩ (.slice A211_0 ((rd_T65 l1_1 x8_2).f0).length c211_0)).setCell ⟨gb213, 1, none⟩ (.int .i64 ((rd_T65 l1_1 x8_2).f1))).heap[gb204]? = some (.cells #[.int .i64 x205000_2, .slice none 0 0] 28 (0, 0))) := ⟨by (with_reducible repeat (refine blk_drew ?_)); refine blk_far ?_ NB204_213.out _; (with_reducible repeat (refine blk_drew ?_)); refine blk_far ?_ NB204_213.out _; (with_reducible repeat (refine blk_drew ?_)); refine blk_far ?_ NB204_212.out _; (with_reducible repeat (refine blk_drew ?_)); refine blk_far ?_ NB204_212.out _; (with_reducible repeat (refine blk_drew ?_)); exact BK204.out⟩
                 have n4_ : Aside0 (((((w65.setCell ⟨gb212, 0, none⟩ (.slice A210_0 ((rd_T65 l0_1 x7_1).f0).length c210_0)).setCell ⟨gb212, 1, none⟩ (.int .i64 ((rd_T65 l0_1 x7_1).f1))).setCell ⟨gb213, 0, none⟩ (.slice A211_0 ((rd_T65 l1_1 x8_2).f0).length c211_0)).setCell ⟨gb213, 1, none⟩ (.int .i64 ((rd_T65 l1_1 x8_2).f1))).heap[gb209]? = some (.cells #[.int .i64 x210000_2, u210001] 28 (0, 0))) := ⟨by (with_reducible repeat (refine blk_drew ?_)); refine blk_far ?_ NB209_213.out _; (with_reducible repeat (refine blk_drew ?_)); refine blk_far ?_ NB209_213.out _; (with_reducible repeat (refine blk_drew ?_)); refine blk_far ?_ NB209_212.out _; (with_reducible repeat (refine blk_drew ?_)); refine blk_far ?_ NB209_212.out _; (with_reducible repeat (refine blk_drew ?_)); exact BK209.out⟩
                 have n5_ : Aside0 (((((w65.setCell ⟨gb212, 0, none⟩ (.slice A210_0 ((rd_T65 l0_1 x7_1).f0).length c210_0)).setCell ⟨gb212, 1, none⟩ (.int .i64 ((rd_T65 l0_1 x7_1).f1))).setCell ⟨gb213, 0, none⟩ (.slice A211_0 ((rd_T65 l1_1 x8_2).f0).length c211_0)).setCell ⟨gb213, 1, none⟩ (.int .i64 ((rd_T65 l1_1 x8_2).f1))).heap[gb212]? = some (.cells #[.slice A210_0 ((rd_T65 l0_1 x7_1).f0).length c210_0, .int .i64 ((rd_T65 l0_1 x7_1).f1)] 65 (0, 0))) := ⟨by (with_reducible repeat (refine blk_drew ?_)); refine blk_far ?_ NB212_213.out _; (with_reducible repeat (refine blk_drew ?_)); refine blk_far ?_ NB212_213.out _; (with_reducible repeat (refine blk_drew ?_)); refine blk_put (cs := #[.slice A210_0 ((rd_T65 l0_1 x7_1).f0).length c210_0, .int .i64 0]) ?_ 1 _ rfl; (with_reducible repeat (refine blk_drew ?_)); refine blk_put (cs := #[.slice none 0 0, .int .i64 0]) ?_ 0 _ rfl; (with_reducible repeat (refine blk_drew ?_)); exact BK212.out⟩
                 have n6_ : Aside0 (((((w65.setCell ⟨gb212, 0, none⟩ (.slice A210_0 ((rd_T65 l0_1 x7_1).f0).length c210_0)).setCell ⟨gb212, 1, none⟩ (.int .i64 ((rd_T65 l0_1 x7_1).f1))).setCell ⟨gb213, 0, none⟩ (.slice A211_0 ((rd_T65 l1_1 x8_2).f0).length c211_0)).setCell ⟨gb213, 1, none⟩ (.int .i64 ((rd_T65 l1_1 x8_2).f1))).heap[gb213]? = some (.cells #[.slice A211_0 ((rd_T65 l1_1 x8_2).f0).length c211_0, .int .i64 ((rd_T65 l1_1 x8_2).f1)] 65 (0, 0))) := ⟨by (with_reducible repeat (refine blk_drew ?_)); refine blk_put (cs := #[.slice A211_0 ((rd_T65 l1_1 x8_2).f0).length c211_0, .int .i64 0]) ?_ 1 _ rfl; (with_reducible repeat (refine blk_drew ?_)); refine blk_put (cs := #[.slice none 0 0, .int .i64 0]) ?_ 0 _ rfl; (with_reducible repeat (refine blk_drew ?_)); refine blk_far ?_ NB213_212.out _; (with_reducible repeat (refine blk_drew ?_)); refine blk_far ?_ NB213_212.out _; (with_reducible repeat (refine blk_drew ?_)); exact BK213.out⟩
                 have n7_ : Aside0 (Below w.heap.size w ((((w65.setCell ⟨gb212, 0, none⟩ (.slice A210_0 ((rd_T65 l0_1 x7_1).f0).length c210_0)).setCell ⟨gb212, 1, none⟩ (.int .i64 ((rd_T65 l0_1 x7_1).f1))).setCell ⟨gb213, 0, none⟩ (.slice A211_0 ((rd_T65 l1_1 x8_2).f0).length c211_0)).setCell ⟨gb213, 1, none⟩ (.int .i64 ((rd_T65 l1_1 x8_2).f1)))) := ⟨by repeat ((with_reducible first | exact HB.out | refine below_set ?_ GE212.out | refine below_set ?_ GE213.out))⟩
                 (try clear HO_210001)
                 (try clear BK202)
                 (try clear BK203)
                 (try clear BK204)
                 (try clear BK209)
                 (try clear BK212)
                 (try clear BK213)
                 (try clear HB)
                 generalize ((((w65.setCell ⟨gb212, 0, none⟩ (.slice A210_0 ((rd_T65 l0_1 x7_1).f0).length c210_0)).setCell ⟨gb212, 1, none⟩ (.int .i64 ((rd_T65 l0_1 x7_1).f1))).setCell ⟨gb213, 0, none⟩ (.slice A211_0 ((rd_T65 l1_1 x8_2).f0).length c211_0)).setCell ⟨gb213, 1, none⟩ (.int .i64 ((rd_T65 l1_1 x8_2).f1))) = w81 at n0_ n1_ n2_ n3_ n4_ n5_ n6_ n7_ ⊢
                 have HO_210001 := n0_
                 have BK202 := n1_
                 have BK203 := n2_
                 have BK204 := n3_
                 have BK209 := n4_
                 have BK212 := n5_
                 have BK213 := n6_
                 have HB := n7_
                 clear n0_ n1_ n2_ n3_ n4_ n5_ n6_ n7_
                 have n0_ := am (Kd.S_drew HO_210001.out)
                 have n1_ := am (blk_drew BK202.out)
                 have n2_ := am (blk_drew BK203.out)
                 have n3_ := am (blk_drew BK204.out)
                 have n4_ := am (blk_drew BK209.out)
                 have n5_ := am (blk_drew BK212.out)
                 have n6_ := am (blk_drew BK213.out)
                 have n7_ := am (below_drew1 HB.out)
                 clear HO_210001
                 clear BK202
                 clear BK203
                 clear BK204
                 clear BK209
                 clear BK212
                 clear BK213
                 clear HB
                 have HO_210001 := n0_
                 have BK202 := n1_
                 have BK203 := n2_
                 have BK204 := n3_
                 have BK209 := n4_
                 have BK212 := n5_
                 have BK213 := n6_
                 have HB := n7_
                 clear n0_ n1_ n2_ n3_ n4_ n5_ n6_ n7_
                 refine start_ (n := 13) (S := fun w' => w'.cell? ⟨gb209, 0, none⟩ = some (.int .i64 x210000_2) ∧ w'.cell? ⟨gb209, 1, none⟩ = some (u210001) ∧ w'.cell? ⟨gb212, 0, none⟩ = some (.slice A210_0 ((rd_T65 l0_1 x7_1).f0).length c210_0) ∧ w'.cell? ⟨gb212, 1, none⟩ = some (.int .i64 ((rd_T65 l0_1 x7_1).f1)) ∧ w'.cell? ⟨gb213, 0, none⟩ = some (.slice A211_0 ((rd_T65 l1_1 x8_2).f0).length c211_0) ∧ w'.cell? ⟨gb213, 1, none⟩ = some (.int .i64 ((rd_T65 l1_1 x8_2).f1))) (ds := [12]) (bs 0 13) (by kernel_rfl) rfl rfl ⟨(blk_cell BK209.out 0).trans rfl, (blk_cell BK209.out 1).trans rfl, (blk_cell BK212.out 0).trans rfl, (blk_cell BK212.out 1).trans rfl, (blk_cell BK213.out 0).trans rfl, (blk_cell BK213.out 1).trans rfl⟩ (fun hHeld => ?_); refine with_tabW spec_l03Join.tab11 spec_l03Join.bits11 (fun HT_ HW_ => ?_)
                 generalize w81.drew = w82 at HO_210001 BK202 BK203 BK204 BK209 BK212 BK213 HB hHeld ⊢
                 refine pure_ (i := 1) (N := some 48) (v := ?_) (a' := ?_) (bs 2 13) rfl rfl (any_of HT_.out (by kernel_rfl)) (fun _ _ _ h => h) (Or.inl ⟨by rfl, ?_⟩) ?_ ?_; rotate_left; intro w'; go_simp; with_reducible rfl; rotate_left; simp only [Act.put, q1, q2, q3, i64_w, i32_w]; rfl
                 refine pure_ (i := 3) (N := some 50) (v := ?_) (a' := ?_) (bs 10 13) rfl rfl (any_of HT_.out (by kernel_rfl)) (fun _ _ _ h => h) (Or.inl ⟨by rfl, ?_⟩) ?_ ?_; rotate_left; intro w'; go_simp; with_reducible rfl; rotate_left; simp only [Act.put, q1, q2, q3, i64_w, i32_w]; rfl
                 refine pure_ (i := 6) (N := some 53) (v := ?_) (a' := ?_) (bs 74 13) rfl rfl (any_of HT_.out (by kernel_rfl)) (fun _ _ _ h => h) (Or.inl ⟨by rfl, ?_⟩) ?_ ?_; rotate_left; intro w'; go_simp; with_reducible rfl; rotate_left; simp only [Act.put, q1, q2, q3, i64_w, i32_w]; rfl
                 refine pure_ (i := 8) (N := some 55) (v := ?_) (a' := ?_) (bs 330 13) rfl rfl (any_of HT_.out (by kernel_rfl)) (fun _ _ _ h => h) (Or.inl ⟨by rfl, ?_⟩) ?_ ?_; rotate_left; intro w'; go_simp; with_reducible rfl; rotate_left; simp only [Act.put, q1, q2, q3, i64_w, i32_w]; rfl
                 refine take_ (i := 0) (N := some 47) (v := ?_) (a' := ?_) (bs 331 13) rfl rfl (take_ofW HT_.out HW_.out (by kernel_rfl)) (fun _ _ _ h => h) (Or.inl ⟨by rfl, ?_⟩) hHeld ?_ ?_; rotate_left; rintro w' ⟨s0, s1, s2, s3, s4, s5⟩; go_simp; with_reducible rfl; rotate_left; simp only [Act.put, q1, q2, q3, i64_w, i32_w]; rfl
                 refine take_ (i := 2) (N := some 49) (v := ?_) (a' := ?_) (bs 335 13) rfl rfl (take_ofW HT_.out HW_.out (by kernel_rfl)) (fun _ _ _ h => h) (Or.inl ⟨by rfl, ?_⟩) hHeld ?_ ?_; rotate_left; rintro w' ⟨s0, s1, s2, s3, s4, s5⟩; go_simp; with_reducible rfl; rotate_left; simp only [Act.put, q1, q2, q3, i64_w, i32_w]; rfl
                 refine take_ (i := 4) (N := some 51) (v := ?_) (a' := ?_) (bs 351 13) rfl rfl (take_ofW HT_.out HW_.out (by kernel_rfl)) (fun _ _ _ h => h) (Or.inl ⟨by rfl, ?_⟩) hHeld ?_ ?_; rotate_left; rintro w' ⟨s0, s1, s2, s3, s4, s5⟩; go_simp; with_reducible rfl; rotate_left; simp only [Act.put, q1, q2, q3, i64_w, i32_w]; rfl
                 refine take_ (i := 7) (N := some 54) (v := ?_) (a' := ?_) (bs 479 13) rfl rfl (take_ofW HT_.out HW_.out (by kernel_rfl)) (fun _ _ _ h => h) (Or.inl ⟨by rfl, ?_⟩) hHeld ?_ ?_; rotate_left; rintro w' ⟨s0, s1, s2, s3, s4, s5⟩; go_simp; with_reducible rfl; rotate_left; simp only [Act.put, q1, q2, q3, i64_w, i32_w]; rfl
                 refine take_ (i := 9) (N := some 56) (v := ?_) (a' := ?_) (bs 991 13) rfl rfl (take_ofW HT_.out HW_.out (by kernel_rfl)) (fun _ _ _ h => h) (Or.inl ⟨by rfl, ?_⟩) hHeld ?_ ?_; rotate_left; rintro w' ⟨s0, s1, s2, s3, s4, s5⟩; go_simp; with_reducible rfl; rotate_left; simp only [Act.put, q1, q2, q3, i64_w, i32_w]; rfl
                 refine pure_ (i := 10) (N := some 57) (v := ?_) (a' := ?_) (bs 2015 13) rfl rfl (any_of HT_.out (by kernel_rfl)) (fun _ _ _ h => h) (Or.inl ⟨by rfl, ?_⟩) ?_ ?_; rotate_left; intro w'; go_simp; with_reducible rfl; rotate_left; simp only [Act.put, q1, q2, q3, i64_w, i32_w]; rfl
                 refine one_ (i := 5) (N := some 52) (bs 2047 13) rfl rfl (one_of HT_.out (by kernel_rfl)) (by decide) (fun K hK => ?_)
                 refine goes_ Try.func49 (by kernel_rfl) rfl #[.slice A210_0 ((rd_T65 l0_1 x7_1).f0).length c210_0, .slice A211_0 ((rd_T65 l1_1 x8_2).f0).length c211_0] (by rfl) rfl rfl (by (try simp only [List.map_toArray, List.map_cons, List.map_nil]); rfl) ?_
                 with_reducible refine (spec_l01Join.calls k2 _ _ ((rd_T65 l0_1 x7_1).f0) _ _ ((rd_T65 l1_1 x8_2).f0) t214 _ ?side1 ?side2 ?side3 ?side4 A56.out).mono ?_
                 (case side1 => repeat (exact (Kd.C_below HR210_0.out HB.out)))
                 (case side2 => exact HC210_0.out)
                 (case side3 => repeat (exact (Kd.C_below HR211_0.out HB.out)))
                 (case side4 => exact HC211_0.out)
                 rintro e w83 ⟨v215, rfl, ho0, hb⟩
                 refine ⟨_, rfl, ?_⟩
                 have n0_ := am (Kd.S_elder' (by (with_reducible repeat (apply Kd.S_drew)); exact HO_210001.out) (Kd.R_base ho0) hb)
                 have n1_ := am (Kd.R_lower ho0 (below_size (by repeat ((with_reducible exact HB.out)))))
                 have n2_ := am (blk_below (g := gb202) (o := .cells #[.int .i64 a0_0, .slice (some ad210) l0_1.length c0_1] 28 (0, 0)) (by exact BK202.out) hb)
                 have n3_ := am (blk_below (g := gb203) (o := .cells #[.int .i64 a1_0, .slice (some ad211) l1_1.length c1_1] 28 (0, 0)) (by exact BK203.out) hb)
                 have n4_ := am (blk_below (g := gb204) (o := .cells #[.int .i64 x205000_2, .slice none 0 0] 28 (0, 0)) (by exact BK204.out) hb)
                 have n5_ := am (blk_below (g := gb209) (o := .cells #[.int .i64 x210000_2, u210001] 28 (0, 0)) (by exact BK209.out) hb)
                 have n6_ := am (blk_below (g := gb212) (o := .cells #[.slice A210_0 ((rd_T65 l0_1 x7_1).f0).length c210_0, .int .i64 ((rd_T65 l0_1 x7_1).f1)] 65 (0, 0)) (by exact BK212.out) hb)
                 have n7_ := am (blk_below (g := gb213) (o := .cells #[.slice A211_0 ((rd_T65 l1_1 x8_2).f0).length c211_0, .int .i64 ((rd_T65 l1_1 x8_2).f1)] 65 (0, 0)) (by exact BK213.out) hb)
                 have n8_ := am (below_step (by repeat ((with_reducible exact HB.out))) hb)
                 clear HO_210001
                 clear BK202
                 clear BK203
                 clear BK204
                 clear BK209
                 clear BK212
                 clear BK213
                 clear HB
                 have HO_210001 := n0_
                 have HO216 := n1_
                 have BK202 := n2_
                 have BK203 := n3_
                 have BK204 := n4_
                 have BK209 := n5_
                 have BK212 := n6_
                 have BK213 := n7_
                 have HB := n8_
                 clear n0_ n1_ n2_ n3_ n4_ n5_ n6_ n7_ n8_
                 (try clear hb)
                 (try clear hb2)
                 (try clear hk)
                 (try clear hi)
                 (try clear ho0)
                 obtain ⟨Ao84, co84, eo84⟩ := Kd.S_slice HO_210001.out
                 (subst eo84)
                 obtain ⟨Ao85, co85, eo85⟩ := Kd.R_slice HO216.out
                 (subst eo85)
                 refine hK.out _ _ ⟨(blk_cell BK209.out 0).trans rfl, (blk_cell BK209.out 1).trans rfl, (blk_cell BK212.out 0).trans rfl, (blk_cell BK212.out 1).trans rfl, (blk_cell BK213.out 0).trans rfl, (blk_cell BK213.out 1).trans rfl⟩ (fun hHeld => ?_)
                 clear hK K
                 refine norm_ (a' := ?_) ?_ ?_; rotate_left; show Act.put _ (some 52) _ = _; simp only [Act.put, q1, q2, q3, i64_w, i32_w]; rfl
                 refine one_ (i := 11) (N := some 58) (bs 4095 13) rfl rfl (one_of HT_.out (by kernel_rfl)) (by decide) (fun K hK => ?_)
                 refine goes_ Try.func33 (by kernel_rfl) rfl #[.agg #[.int .i64 x210000_2, .slice Ao84 x210001_2.length co84], .slice Ao85 t214.length co85, .int .i64 (wrap64 (((rd_T65 l0_1 x7_1).f1) * ((rd_T65 l1_1 x8_2).f1)))] (by rfl) rfl rfl (by (try simp only [List.map_toArray, List.map_cons, List.map_nil]); rfl) ?_
                 with_reducible refine (spec_l03Put.calls k2 x210000_2 _ _ x210001_2 _ _ t214 (wrap64 (((rd_T65 l0_1 x7_1).f1) * ((rd_T65 l1_1 x8_2).f1))) t217 t218 _ ?side1 ?side2 ?side3 ?side4 A57.out).mono ?_
                 (case side1 => repeat (exact (Kd.S_reads' HO_210001.out).2.2))
                 (case side2 => exact (Kd.S_reads' HO_210001.out).2.1)
                 (case side3 => repeat (exact (Kd.R_reads' HO216.out).2.2))
                 (case side4 => exact (Kd.R_reads' HO216.out).2.1)
                 rintro e w86 ⟨v219, rfl, ho0, hb⟩
                 refine ⟨_, rfl, ?_⟩
                 have n0_ := am (Kd.S_elder' (by (with_reducible repeat (apply Kd.S_drew)); exact HO_210001.out) (Kd.S_base ho0) hb)
                 have n1_ := am (Kd.R_below (by (with_reducible repeat (apply Kd.R_drew)); exact HO216.out) hb)
                 have n2_ := am (Kd.S_lower (Kd.S_newB (Kd.S_newB (Kd.S_new' (Kd.S_new' ho0 (Kd.S_lt (by (with_reducible repeat (apply Kd.S_drew)); exact HO_210001.out))) (Kd.R_lt (by (with_reducible repeat (apply Kd.R_drew)); exact HO216.out))) (g := gb212) (o := .cells #[.slice A210_0 ((rd_T65 l0_1 x7_1).f0).length c210_0, .int .i64 ((rd_T65 l0_1 x7_1).f1)] 65 (0, 0)) (by exact BK212.out)) (g := gb213) (o := .cells #[.slice A211_0 ((rd_T65 l1_1 x8_2).f0).length c211_0, .int .i64 ((rd_T65 l1_1 x8_2).f1)] 65 (0, 0)) (by exact BK213.out)) (below_size (by repeat ((with_reducible exact HB.out)))))
                 have n3_ := am (blk_below (g := gb202) (o := .cells #[.int .i64 a0_0, .slice (some ad210) l0_1.length c0_1] 28 (0, 0)) (by exact BK202.out) hb)
                 have n4_ := am (blk_below (g := gb203) (o := .cells #[.int .i64 a1_0, .slice (some ad211) l1_1.length c1_1] 28 (0, 0)) (by exact BK203.out) hb)
                 have n5_ := am (blk_below (g := gb204) (o := .cells #[.int .i64 x205000_2, .slice none 0 0] 28 (0, 0)) (by exact BK204.out) hb)
                 have n6_ := am (blk_below (g := gb209) (o := .cells #[.int .i64 x210000_2, .slice Ao84 x210001_2.length co84] 28 (0, 0)) (by exact BK209.out) hb)
                 have n7_ := am (blk_below (g := gb212) (o := .cells #[.slice A210_0 ((rd_T65 l0_1 x7_1).f0).length c210_0, .int .i64 ((rd_T65 l0_1 x7_1).f1)] 65 (0, 0)) (by exact BK212.out) hb)
                 have n8_ := am (blk_below (g := gb213) (o := .cells #[.slice A211_0 ((rd_T65 l1_1 x8_2).f0).length c211_0, .int .i64 ((rd_T65 l1_1 x8_2).f1)] 65 (0, 0)) (by exact BK213.out) hb)
                 have n9_ := am (below_step (by repeat ((with_reducible exact HB.out))) hb)
                 clear HO_210001
                 clear HO216
                 clear BK202
                 clear BK203
                 clear BK204
                 clear BK209
                 clear BK212
                 clear BK213
                 clear HB
                 have HO_210001 := n0_
                 have HO216 := n1_
                 have HO220 := n2_
                 have BK202 := n3_
                 have BK203 := n4_
                 have BK204 := n5_
                 have BK209 := n6_
                 have BK212 := n7_
                 have BK213 := n8_
                 have HB := n9_
                 clear n0_ n1_ n2_ n3_ n4_ n5_ n6_ n7_ n8_ n9_
                 (try clear hb)
                 (try clear hb2)
                 (try clear hk)
                 (try clear hi)
                 (try clear ho0)
                 obtain ⟨Ao88, co88, eo88⟩ := Kd.S_slice HO220.out
                 (subst eo88)
                 refine hK.out _ _ ⟨(blk_cell BK209.out 0).trans rfl, (blk_cell BK209.out 1).trans rfl, (blk_cell BK212.out 0).trans rfl, (blk_cell BK212.out 1).trans rfl, (blk_cell BK213.out 0).trans rfl, (blk_cell BK213.out 1).trans rfl⟩ (fun hHeld => ?_)
                 clear hK K
                 refine norm_ (a' := ?_) ?_ ?_; rotate_left; show Act.put _ (some 58) _ = _; simp only [Act.put, q1, q2, q3, i64_w, i32_w]; rfl
                 refine last_ (i := 12) (N := none) (bs 8191 13) rfl rfl (one_of HT_.out (by kernel_rfl)) (by decide) (fun K hK => ?_)
                 have hs87 : w86.cell? ⟨gb209, 0, none⟩ = some (.int .i64 x210000_2) := (blk_cell BK209.out 0).trans rfl
                 have hfs87 := blk_frozen BK209.out 0
                 have hns87_0 := NB202_209.out
                 have hns87_1 := NB203_209.out
                 have hns87_2 := NB204_209.out
                 have hns87_4 := NB212_209.out
                 have hns87_5 := NB213_209.out
                 have hms87_0 := NB209_202.out
                 have hms87_1 := NB209_203.out
                 have hms87_2 := NB209_204.out
                 have hms87_4 := NB209_212.out
                 have hms87_5 := NB209_213.out
                 have hs89 : w86.cell? ⟨gb209, 1, none⟩ = some (.slice Ao84 x210001_2.length co84) := (blk_cell BK209.out 1).trans rfl
                 have hfs89 := blk_frozen BK209.out 1
                 have hns89_0 := NB202_209.out
                 have hns89_1 := NB203_209.out
                 have hns89_2 := NB204_209.out
                 have hns89_4 := NB212_209.out
                 have hns89_5 := NB213_209.out
                 have hms89_0 := NB209_202.out
                 have hms89_1 := NB209_203.out
                 have hms89_2 := NB209_204.out
                 have hms89_4 := NB209_212.out
                 have hms89_5 := NB209_213.out
                 refine skip_ (w1 := ?_) (by rfl) rfl ?_ ?_
                 rotate_left
                 · go_simp
                   rfl
                 refine hK.out _ _ ?_
                 clear hK K
                 refine done_ (done_of HT_.out (by kernel_rfl)) ?_
                 try go_wp2
                 go_roundg k2
                 case measure => have := HK1.out; have := HK2.out; omega
                 case rel => exact ⟨(wrap64 (x8_2 + 1)), (x205000_2), (t217), (t218), (.slice Ao88 t218.length co88), (by rfl), H', ⟨by have := HK1.out; have := HK2.out; omega⟩, ⟨by (with_reducible repeat (apply Kd.S_drew)); exact Kd.S_mono (Kd.S_far (p := ⟨gb209, 1, none⟩) (Kd.S_far (p := ⟨gb209, 0, none⟩) (Kd.S_types HO220.out BK209.out (by decide)) (fun _ hk => hk.2) (.int .i64 t217)) (fun _ hk => hk.2) (.slice Ao88 t218.length co88)) (fun _ hk => trivial)⟩, ⟨by (with_reducible repeat (refine blk_drew ?_)); refine blk_far ?_ NB202_209.out _; (with_reducible repeat (refine blk_drew ?_)); refine blk_far ?_ NB202_209.out _; (with_reducible repeat (refine blk_drew ?_)); exact BK202.out⟩, ⟨by (with_reducible repeat (refine blk_drew ?_)); refine blk_far ?_ NB203_209.out _; (with_reducible repeat (refine blk_drew ?_)); refine blk_far ?_ NB203_209.out _; (with_reducible repeat (refine blk_drew ?_)); exact BK203.out⟩, ⟨by (with_reducible repeat (refine blk_drew ?_)); refine blk_far ?_ NB204_209.out _; (with_reducible repeat (refine blk_drew ?_)); refine blk_far ?_ NB204_209.out _; (with_reducible repeat (refine blk_drew ?_)); exact BK204.out⟩, ⟨by (with_reducible repeat (refine blk_drew ?_)); refine blk_put (cs := #[.int .i64 t217, .slice Ao84 x210001_2.length co84]) ?_ 1 _ rfl; (with_reducible repeat (refine blk_drew ?_)); refine blk_put (cs := #[.int .i64 x210000_2, .slice Ao84 x210001_2.length co84]) ?_ 0 _ rfl; (with_reducible repeat (refine blk_drew ?_)); exact BK209.out⟩, ⟨by repeat ((with_reducible first | exact HB.out | refine below_set ?_ GE209.out))⟩⟩
             · rw [if_neg c25] at H
               exact absurd H (by simp)
           · rw [if_neg c24] at H
             exact absurd H (by simp)
         · rw [if_neg c23] at H
           exact absurd H (by simp)
       · rw [if_neg c22] at H
         have c22b0 : decide (x8_2 < (l1_1.length : Int)) = false := decide_eq_false c22
         clear c22
         have H' := am H
         clear H
         have hnb90 := NB203_202.out
         have hnc90 := NB202_203.out
         have hnb91 := NB203_204.out
         have hnc91 := NB204_203.out
         have hnb92 := NB203_209.out
         have hnc92 := NB209_203.out
         have hcz93_0 : wr.cell? ⟨gb203, 0, none⟩ = some (.int .i64 a1_0) := (blk_cell BK203.out 0).trans rfl
         have hcz93_1 : wr.cell? ⟨gb203, 1, none⟩ = some (.slice A1_1 l1_1.length c1_1) := (blk_cell BK203.out 1).trans rfl
         have hfz93_0 := blk_frozen BK203.out 0
         have hfz93_1 := blk_frozen BK203.out 1
         go_wp2
         go_roundg k2
         case measure => have := HK1.out; have := HK2.out; omega
         case rel => exact ⟨(wrap64 (x7_1 + 1)), (x205000_2), (x210000_2), (x210001_2), (u210001), (by rfl), H', ⟨by have := HK1.out; have := HK2.out; omega⟩, ⟨by (with_reducible repeat (apply Kd.S_drew)); exact HO_210001.out⟩, ⟨by (with_reducible repeat (refine blk_drew ?_)); exact BK202.out⟩, ⟨by (with_reducible repeat (refine blk_drew ?_)); exact BK203.out⟩, ⟨by (with_reducible repeat (refine blk_drew ?_)); exact BK204.out⟩, ⟨by (with_reducible repeat (refine blk_drew ?_)); exact BK209.out⟩, ⟨by repeat ((with_reducible exact HB.out))⟩⟩
   · rw [if_neg c17] at H
     have c17b0 : decide (x7_1 < (l0_1.length : Int)) = false := decide_eq_false c17
     clear c17
     simp only [Option.some.injEq, Prod.mk.injEq] at H
     obtain ⟨rfl, rfl, rfl⟩ := H
     have hnb94 := NB202_203.out
     have hnc94 := NB203_202.out
     have hnb95 := NB202_204.out
     have hnc95 := NB204_202.out
     have hnb96 := NB202_209.out
     have hnc96 := NB209_202.out
     have hcz97_0 : wr.cell? ⟨gb202, 0, none⟩ = some (.int .i64 a0_0) := (blk_cell BK202.out 0).trans rfl
     have hcz97_1 : wr.cell? ⟨gb202, 1, none⟩ = some (.slice A0_1 l0_1.length c0_1) := (blk_cell BK202.out 1).trans rfl
     have hfz97_0 := blk_frozen BK202.out 0
     have hfz97_1 := blk_frozen BK202.out 1
     have hnb98 := NB209_203.out
     have hnc98 := NB203_209.out
     have hnb99 := NB209_204.out
     have hnc99 := NB204_209.out
     have hcz100_0 : wr.cell? ⟨gb209, 0, none⟩ = some (.int .i64 x210000_1) := (blk_cell BK209.out 0).trans rfl
     have hcz100_1 : wr.cell? ⟨gb209, 1, none⟩ = some (u210001) := (blk_cell BK209.out 1).trans rfl
     have hfz100_0 := blk_frozen BK209.out 0
     have hfz100_1 := blk_frozen BK209.out 1
     have hnb101 := NB204_203.out
     have hnc101 := NB203_204.out
     have hcz102_0 : wr.cell? ⟨gb204, 0, none⟩ = some (.int .i64 x205000_1) := (blk_cell BK204.out 0).trans rfl
     have hcz102_1 : wr.cell? ⟨gb204, 1, none⟩ = some (.slice none 0 0) := (blk_cell BK204.out 1).trans rfl
     have hfz102_0 := blk_frozen BK204.out 0
     have hfz102_1 := blk_frozen BK204.out 1
     obtain ⟨Ao103, co103, eo103⟩ := Kd.S_slice HO_210001.out
     subst eo103
     go_wp2
     refine bodyPost_ret (results_ct rfl _ _ gb204 28 #[.int .i64 x210000_1, .slice Ao103 x210001_1.length co103] (0, 0) _ rfl (by (with_reducible repeat (refine blk_drew ?_)); refine blk_put (cs := #[.int .i64 x210000_1, .slice none 0 0]) ?_ 1 _ rfl; (with_reducible repeat (refine blk_drew ?_)); refine blk_put (cs := #[.int .i64 x205000_1, .slice none 0 0]) ?_ 0 _ rfl; (with_reducible repeat (refine blk_drew ?_)); exact BK204.out) Try.underlying28 rfl (by kernel_rfl)) rfl ?_
     exact ⟨_, by rfl, by (with_reducible repeat (apply Kd.S_drew)); exact Kd.S_mono (Kd.S_far (p := ⟨gb204, 1, none⟩) (Kd.S_far (p := ⟨gb204, 0, none⟩) (Kd.S_types HO_210001.out BK204.out (by decide)) (fun _ hk => hk.2) (.int .i64 x210000_1)) (fun _ hk => hk.2) (.slice Ao103 x210001_1.length co103)) (fun _ hk => trivial), by repeat ((with_reducible first | exact HB.out | refine below_set ?_ GE204.out))⟩
end Go.Proofs.Ytgcgeoglhebonaa.P
end
section
namespace Go.Proofs.Ytgcgeoglhebonaa.P
open Go.RowKit Go.Proofs.YtgcgeoglhebonaaW.PrintWords Go.Proofs.YtgcgeoglhebonaaW.PrintLast Go.Proofs.YtgcgeoglhebonaaW.PrintMore
attribute [local go_sem] max2_int min2_int max_two min_two max_three min_three max_four min_four   -- for this text's walks alone
set_option linter.unusedVariables false
set_option linter.unusedSimpArgs false
def spec_l03Told.f (a0_0 : Int) (l0_1 : List (S65)) : Option (Int × (List (S65)) × Int) := if (l0_1.length : Int) > 200 then (some (0, ([] : List (S65)), 3)) else (some (a0_0, l0_1, 0))
theorem spec_l03Told.calls (a0_0 : Int) (P0_1_ : Nat → Prop) (A0_1 : Option Addr) (c0_1 : Nat) (l0_1 : List (S65)) (r1 : Int) (r2 : List (S65)) (r3 : Int) (w : World) (hs0_1 : Kd.V k65 65 w w.heap.size (fun k_ => P0_1_ k_) (.slice A0_1 l0_1.length c0_1) l0_1) (h : spec_l03Told.f a0_0 l0_1 = some (r1, r2, r3)) :
 Calls Try.prog 20 #[.agg #[.int .i64 a0_0, .slice A0_1 l0_1.length c0_1]] w fun e w' => ∃ v1_ : Value, e = .returned (.tuple #[.agg #[.int .i64 r1, v1_], .int .i64 r3]) ∧ Kd.V k65 65 w' w.heap.size (fun k_ => (P0_1_ k_ ∨ w.heap.size ≤ k_)) v1_ r2 ∧ Below w.heap.size w w' := by
 have hu28 := Try.underlying28
 have HO0_1 := am (show Kd.V k65 65 w w.heap.size (fun k_ => (P0_1_ k_ ∨ w.heap.size ≤ k_)) (.slice A0_1 l0_1.length c0_1) l0_1 from Kd.V_mono hs0_1 (fun k_ hk => .inl hk))
 have HB := am (Below.refl w.heap.size w)
 have H : (if (l0_1.length : Int) > 200 then (some (0, ([] : List (S65)), 3)) else (some (a0_0, l0_1, 0))) = some (r1, r2, r3) := h
 clear h
 by_cases c2 : (l0_1.length : Int) > 200
 · rw [if_pos c2] at H
   have c2b0 : decide (200 < (l0_1.length : Int)) = true := decide_eq_true c2
   have c2b1 : decide (200 < l0_1.length) = true := decide_eq_true (by omega)
   clear c2
   simp only [Option.some.injEq, Prod.mk.injEq] at H
   obtain ⟨rfl, rfl, rfl⟩ := H
   go_enter Try.func20, Try.ntmps20
   go_wp2_with (first | ((with_reducible refine gate_dst (N := 1) rfl ?_); refine box_event ?hg (N := 1) ?hd (cs := #[.int .i64 a0_0, .slice A0_1 l0_1.length c0_1]) (t := 28) ?hr ?_; (case hd => rfl); (case hg => rfl); (case hr => (go_simp; done)); intro gb221 hg w3 hbox hb; have n0_ := am (Kd.V_below (Kd.V_elderB (by (with_reducible repeat (apply Kd.V_drew)); exact HO0_1.out) gb221 (Nat.le_of_eq hg.symm)) hb); have n1_ := am (below_step (by repeat ((with_reducible exact HB.out))) hb); have n2_ := am (hbox); have n3_ := am ((by rw [hg]; exact (below_size (by repeat ((with_reducible exact HB.out)))) : w.heap.size ≤ gb221)); have n4_ := am ((by rw [hg]; exact (below_size (by repeat ((with_reducible exact HB.out)))) : w.heap.size ≤ gb221)); clear HO0_1; clear HB; have HO0_1 := n0_; have HB := n1_; have BK221 := n2_; have GW221 := n3_; have GE221 := n4_; clear n0_ n1_ n2_ n3_ n4_; clear hb hbox hg) | ((with_reducible refine gate_dst (N := 2) rfl ?_); refine box_event ?hg (N := 2) ?hd (cs := #[.int .i64 0, .slice none 0 0]) (t := 28) ?hr ?_; (case hd => rfl); (case hg => rfl); (case hr => (go_simp; done)); intro gb222 hg w4 hbox hb; have n0_ := am (Kd.V_below (Kd.V_elderB (by (with_reducible repeat (apply Kd.V_drew)); exact HO0_1.out) gb222 (Nat.le_of_eq hg.symm)) hb); have n1_ := am (blk_below (g := gb221) (o := .cells #[.int .i64 a0_0, .slice A0_1 l0_1.length c0_1] 28 (0, 0)) (by exact BK221.out) hb); have n2_ := am (below_step (by repeat ((with_reducible exact HB.out))) hb); have n3_ := am (hbox); have n4_ := am ((by rw [hg]; exact (below_size (by repeat ((with_reducible exact HB.out)))) : w.heap.size ≤ gb222)); have n5_ := am ((by rw [hg]; exact (below_size (by repeat ((with_reducible exact HB.out)))) : w.heap.size ≤ gb222)); have n6_ := am ((by rw [hg]; exact Nat.ne_of_lt (blk_lt (g := gb221) (o := .cells #[.int .i64 a0_0, .slice A0_1 l0_1.length c0_1] 28 (0, 0)) (by exact BK221.out)) : gb221 ≠ gb222)); have n7_ := am ((by rw [hg]; exact Nat.ne_of_gt (blk_lt (g := gb221) (o := .cells #[.int .i64 a0_0, .slice A0_1 l0_1.length c0_1] 28 (0, 0)) (by exact BK221.out)) : gb222 ≠ gb221)); clear HO0_1; clear BK221; clear HB; have HO0_1 := n0_; have BK221 := n1_; have HB := n2_; have BK222 := n3_; have GW222 := n4_; have GE222 := n5_; have NB221_222 := n6_; have NB222_221 := n7_; clear n0_ n1_ n2_ n3_ n4_ n5_ n6_ n7_; clear hb hbox hg; have hnb5 := NB221_222.out; have hnc5 := NB222_221.out; have hcz6_0 : w4.cell? ⟨gb221, 0, none⟩ = some (.int .i64 a0_0) := (blk_cell BK221.out 0).trans rfl; have hcz6_1 : w4.cell? ⟨gb221, 1, none⟩ = some (.slice A0_1 l0_1.length c0_1) := (blk_cell BK221.out 1).trans rfl; have hfz6_0 := blk_frozen BK221.out 0; have hfz6_1 := blk_frozen BK221.out 1; have hcz7_0 : w4.cell? ⟨gb222, 0, none⟩ = some (.int .i64 0) := (blk_cell BK222.out 0).trans rfl; have hcz7_1 : w4.cell? ⟨gb222, 1, none⟩ = some (.slice none 0 0) := (blk_cell BK222.out 1).trans rfl; have hfz7_0 := blk_frozen BK222.out 0; have hfz7_1 := blk_frozen BK222.out 1))
   refine bodyPost_ret (results_ct rfl _ _ gb222 28 #[.int .i64 0, .slice none 0 0] (0, 0) _ rfl (by (with_reducible repeat (refine blk_drew ?_)); refine blk_put (cs := #[.int .i64 0, .slice none 0 0]) ?_ 1 _ rfl; (with_reducible repeat (refine blk_drew ?_)); refine blk_put (cs := #[.int .i64 0, .slice none 0 0]) ?_ 0 _ rfl; (with_reducible repeat (refine blk_drew ?_)); exact BK222.out) Try.underlying28 rfl (by kernel_rfl)) rfl ?_
   exact ⟨_, by rfl, Kd.V_nil _ _ _ _ _, by repeat ((with_reducible first | exact HB.out | refine below_set ?_ GE222.out))⟩
 · rw [if_neg c2] at H
   have c2b0 : decide (200 < (l0_1.length : Int)) = false := decide_eq_false c2
   have c2b1 : decide (200 < l0_1.length) = false := decide_eq_false (by omega)
   clear c2
   simp only [Option.some.injEq, Prod.mk.injEq] at H
   obtain ⟨rfl, rfl, rfl⟩ := H
   go_enter Try.func20, Try.ntmps20
   go_wp2_with (first | ((with_reducible refine gate_dst (N := 1) rfl ?_); refine box_event ?hg (N := 1) ?hd (cs := #[.int .i64 a0_0, .slice A0_1 l0_1.length c0_1]) (t := 28) ?hr ?_; (case hd => rfl); (case hg => rfl); (case hr => (go_simp; done)); intro gb221 hg w8 hbox hb; have n0_ := am (Kd.V_below (Kd.V_elderB (by (with_reducible repeat (apply Kd.V_drew)); exact HO0_1.out) gb221 (Nat.le_of_eq hg.symm)) hb); have n1_ := am (below_step (by repeat ((with_reducible exact HB.out))) hb); have n2_ := am (hbox); have n3_ := am ((by rw [hg]; exact (below_size (by repeat ((with_reducible exact HB.out)))) : w.heap.size ≤ gb221)); have n4_ := am ((by rw [hg]; exact (below_size (by repeat ((with_reducible exact HB.out)))) : w.heap.size ≤ gb221)); clear HO0_1; clear HB; have HO0_1 := n0_; have HB := n1_; have BK221 := n2_; have GW221 := n3_; have GE221 := n4_; clear n0_ n1_ n2_ n3_ n4_; clear hb hbox hg) | ((with_reducible refine gate_dst (N := 2) rfl ?_); refine box_event ?hg (N := 2) ?hd (cs := #[.int .i64 0, .slice none 0 0]) (t := 28) ?hr ?_; (case hd => rfl); (case hg => rfl); (case hr => (go_simp; done)); intro gb222 hg w9 hbox hb; have n0_ := am (Kd.V_below (Kd.V_elderB (by (with_reducible repeat (apply Kd.V_drew)); exact HO0_1.out) gb222 (Nat.le_of_eq hg.symm)) hb); have n1_ := am (blk_below (g := gb221) (o := .cells #[.int .i64 a0_0, .slice A0_1 l0_1.length c0_1] 28 (0, 0)) (by exact BK221.out) hb); have n2_ := am (below_step (by repeat ((with_reducible exact HB.out))) hb); have n3_ := am (hbox); have n4_ := am ((by rw [hg]; exact (below_size (by repeat ((with_reducible exact HB.out)))) : w.heap.size ≤ gb222)); have n5_ := am ((by rw [hg]; exact (below_size (by repeat ((with_reducible exact HB.out)))) : w.heap.size ≤ gb222)); have n6_ := am ((by rw [hg]; exact Nat.ne_of_lt (blk_lt (g := gb221) (o := .cells #[.int .i64 a0_0, .slice A0_1 l0_1.length c0_1] 28 (0, 0)) (by exact BK221.out)) : gb221 ≠ gb222)); have n7_ := am ((by rw [hg]; exact Nat.ne_of_gt (blk_lt (g := gb221) (o := .cells #[.int .i64 a0_0, .slice A0_1 l0_1.length c0_1] 28 (0, 0)) (by exact BK221.out)) : gb222 ≠ gb221)); clear HO0_1; clear BK221; clear HB; have HO0_1 := n0_; have BK221 := n1_; have HB := n2_; have BK222 := n3_; have GW222 := n4_; have GE222 := n5_; have NB221_222 := n6_; have NB222_221 := n7_; clear n0_ n1_ n2_ n3_ n4_ n5_ n6_ n7_; clear hb hbox hg; have hnb10 := NB221_222.out; have hnc10 := NB222_221.out; have hcz11_0 : w9.cell? ⟨gb221, 0, none⟩ = some (.int .i64 a0_0) := (blk_cell BK221.out 0).trans rfl; have hcz11_1 : w9.cell? ⟨gb221, 1, none⟩ = some (.slice A0_1 l0_1.length c0_1) := (blk_cell BK221.out 1).trans rfl; have hfz11_0 := blk_frozen BK221.out 0; have hfz11_1 := blk_frozen BK221.out 1; have hcz12_0 : w9.cell? ⟨gb222, 0, none⟩ = some (.int .i64 0) := (blk_cell BK222.out 0).trans rfl; have hcz12_1 : w9.cell? ⟨gb222, 1, none⟩ = some (.slice none 0 0) := (blk_cell BK222.out 1).trans rfl; have hfz12_0 := blk_frozen BK222.out 0; have hfz12_1 := blk_frozen BK222.out 1))
   refine bodyPost_ret (results_ct rfl _ _ gb222 28 #[.int .i64 a0_0, .slice A0_1 l0_1.length c0_1] (0, 0) _ rfl (by (with_reducible repeat (refine blk_drew ?_)); refine blk_put (cs := #[.int .i64 a0_0, .slice none 0 0]) ?_ 1 _ rfl; (with_reducible repeat (refine blk_drew ?_)); refine blk_put (cs := #[.int .i64 0, .slice none 0 0]) ?_ 0 _ rfl; (with_reducible repeat (refine blk_drew ?_)); exact BK222.out) Try.underlying28 rfl (by kernel_rfl)) rfl ?_
   exact ⟨_, by rfl, by (with_reducible repeat (apply Kd.V_drew)); exact Kd.V_mono (Kd.V_far (p := ⟨gb222, 1, none⟩) (Kd.V_far (p := ⟨gb222, 0, none⟩) (Kd.V_mono HO0_1.out (fun k_ hk => (⟨hk, hk.2⟩ : _ ∧ k_ ≠ gb222))) (fun _ hk => hk.2) (.int .i64 a0_0)) (fun _ hk => hk.2) (.slice A0_1 l0_1.length c0_1)) (fun _ hk => hk.1.1.1), by repeat ((with_reducible first | exact HB.out | refine below_set ?_ GE222.out))⟩
end Go.Proofs.Ytgcgeoglhebonaa.P
end
section
namespace Go.Proofs.Ytgcgeoglhebonaa.P
open Go.RowKit Go.Proofs.YtgcgeoglhebonaaW.PrintWords Go.Proofs.YtgcgeoglhebonaaW.PrintLast Go.Proofs.YtgcgeoglhebonaaW.PrintMore
attribute [local go_sem] max2_int min2_int max_two min_two max_three min_three max_four min_four   -- for this text's walks alone
set_option linter.unusedVariables false
set_option linter.unusedSimpArgs false
mutual
def spec_l03Plus.l0 : Nat → Int → Int → Int → List (S65) → Int → List (S65) → Int → List (S65) → Option (Int × (List (S65)))
 | 0, _, _, _, _, _, _, _, _ => none
 | k + 1, x2, x8, x224000, x224001, x225000, x225001, x227000, x227001 => if x8 < (x225001.length : Int) then (if 0 ≤ x8 then ((spec_l03Put.f k x227000 x227001 ((rd_T65 x225001 x8).f0) (wrap64 (x2 * ((rd_T65 x225001 x8).f1)))).bind fun bt229 => (spec_l03Plus.l0 k x2 (wrap64 (x8 + 1)) x224000 x224001 x225000 x225001 bt229.1 bt229.2)) else (none)) else (if (x225001.length : Int) = 0 then ((spec_l03Empty.f x224000).bind fun bt233 => (spec_l03Plus.l1 k 0 x224000 x224001 bt233.1 bt233.2)) else (some (x227000, x227001)))
def spec_l03Plus.l1 : Nat → Int → Int → List (S65) → Int → List (S65) → Option (Int × (List (S65)))
 | 0, _, _, _, _, _ => none
 | k + 1, x9, x224000, x224001, x227000, x227001 => if x9 < (x224001.length : Int) then (if 0 ≤ x9 then ((spec_l01Own.f ((rd_T65 x224001 x9).f0)).bind fun t238 => (if x227001.length < 4398046511104 then (spec_l03Plus.l1 k (wrap64 (x9 + 1)) x224000 x224001 x227000 (x227001 ++ [(⟨t238, (rd_T65 x224001 x9).f1⟩ : S65)])) else (none))) else (none)) else (some (x227000, x227001))
end
def spec_l03Plus.f (k : Nat) (a0_0 : Int) (l0_1 : List (S65)) (a1_0 : Int) (l1_1 : List (S65)) (a2 : Int) : Option (Int × (List (S65))) := spec_l03Plus.l0 k a2 0 a0_0 l0_1 a1_0 l1_1 a0_0 l0_1
def spec_l03Plus.T5 : Bool × List (List Nat × List Nat) := (true, [([], []), ([], []), ([1], [1]), ([], []), ([2, 3], [2, 3]), ([4], [4]), ([5], [5]), ([], []), ([], []), ([8], [8]), ([], []), ([9, 10], [9, 10]), ([11], [11]), ([12], [12]), ([7, 13], [7, 13]), ([0, 6, 14], [0, 6, 14]), ([15, 15, 0, 1, 2, 3, 4, 5, 6, 7, 8, 9, 10, 11, 12, 13, 14, 15], [15])])
def spec_l03Plus.B5 : List Nat := [0, 0, 2, 0, 14, 30, 62, 0, 0, 256, 0, 1792, 3840, 7936, 16256, 32767, 65535]
theorem spec_l03Plus.tab5 : rtab .any (opsOf Try.f21 5) = spec_l03Plus.T5 := by kernel_rfl
theorem spec_l03Plus.bits5 : waitsOk spec_l03Plus.T5.2 spec_l03Plus.B5 = true := by kernel_rfl
def spec_l03Plus.T11 : Bool × List (List Nat × List Nat) := (true, [([], []), ([0], [0]), ([], []), ([2], [2]), ([], []), ([3, 4], [3, 4]), ([5], [5]), ([6], [6]), ([7], [7]), ([], []), ([9], [9]), ([], []), ([10, 11], [10, 11]), ([12], [12]), ([13], [13]), ([8, 14], [8, 14]), ([15], [15]), ([1, 16, 8], [1, 16]), ([0, 1, 2, 3, 4, 5, 6, 7, 8, 9, 10, 11, 12, 13, 14, 15, 16, 17], []), ([18, 17, 17, 0, 1, 2, 3, 4, 5, 6, 7, 8, 9, 10, 11, 12, 13, 14, 15, 16, 17], [17, 18])])
def spec_l03Plus.B11 : List Nat := [0, 1, 0, 4, 0, 28, 60, 124, 252, 0, 512, 0, 3584, 7680, 15872, 32764, 65532, 131071, 262143, 524287]
theorem spec_l03Plus.tab11 : rtab .any (opsOf Try.f21 11) = spec_l03Plus.T11 := by kernel_rfl
theorem spec_l03Plus.bits11 : waitsOk spec_l03Plus.T11.2 spec_l03Plus.B11 = true := by kernel_rfl
theorem spec_l03Plus.calls (k : Nat) (a0_0 : Int) (P0_1_ : Nat → Prop) (A0_1 : Option Addr) (c0_1 : Nat) (l0_1 : List (S65)) (a1_0 : Int) (A1_1 : Option Addr) (c1_1 : Nat) (l1_1 : List (S65)) (a2 : Int) (r1 : Int) (r2 : List (S65)) (w : World) (hs0_1 : Kd.V k65 65 w w.heap.size (fun k_ => P0_1_ k_) (.slice A0_1 l0_1.length c0_1) l0_1) (hr1_1 : Kd.C k65 w A1_1 l1_1.length l1_1) (hc1_1 : l1_1.length ≤ c1_1) (h : spec_l03Plus.f k a0_0 l0_1 a1_0 l1_1 a2 = some (r1, r2)) :
 Calls Try.prog 21 #[.agg #[.int .i64 a0_0, .slice A0_1 l0_1.length c0_1], .agg #[.int .i64 a1_0, .slice A1_1 l1_1.length c1_1], .int .i64 a2] w fun e w' => ∃ v1_ : Value, e = .returned (.agg #[.int .i64 r1, v1_]) ∧ Kd.V k65 65 w' w.heap.size (fun k_ => (P0_1_ k_ ∨ w.heap.size ≤ k_)) v1_ r2 ∧ Below w.heap.size w w' := by
 have hu28 := Try.underlying28
 have hu65 := Try.underlying65
 have HO0_1 := am (show Kd.V k65 65 w w.heap.size (fun k_ => (P0_1_ k_ ∨ w.heap.size ≤ k_)) (.slice A0_1 l0_1.length c0_1) l0_1 from Kd.V_mono hs0_1 (fun k_ hk => .inl hk))
 have HR1_1 := am hr1_1
 have HC1_1 := am hc1_1
 clear hr1_1 hc1_1
 have HB := am (Below.refl w.heap.size w)
 have H : (spec_l03Plus.l0 k a2 0 a0_0 l0_1 a1_0 l1_1 a0_0 l0_1) = some (r1, r2) := h
 clear h
 have H' := am H
 clear H
 go_enter Try.func21, Try.ntmps21
 go_wp2_with (first | ((with_reducible refine gate_dst (N := 3) rfl ?_); refine box_event ?hg (N := 3) ?hd (cs := #[.int .i64 a0_0, .slice A0_1 l0_1.length c0_1]) (t := 28) ?hr ?_; (case hd => rfl); (case hg => rfl); (case hr => (go_simp; done)); intro gb223 hg w4 hbox hb; have n0_ := am (Kd.V_below (Kd.V_elderB (by (with_reducible repeat (apply Kd.V_drew)); exact HO0_1.out) gb223 (Nat.le_of_eq hg.symm)) hb); have n1_ := am (below_step (by repeat ((with_reducible exact HB.out))) hb); have n2_ := am (hbox); have n3_ := am ((by rw [hg]; exact (below_size (by repeat ((with_reducible exact HB.out)))) : w.heap.size ≤ gb223)); have n4_ := am ((by rw [hg]; exact (below_size (by repeat ((with_reducible exact HB.out)))) : w.heap.size ≤ gb223)); clear HO0_1; clear HB; have HO0_1 := n0_; have HB := n1_; have BK223 := n2_; have GW223 := n3_; have GE223 := n4_; clear n0_ n1_ n2_ n3_ n4_; clear hb hbox hg) | ((with_reducible refine gate_dst (N := 4) rfl ?_); refine box_event ?hg (N := 4) ?hd (cs := #[.int .i64 a1_0, .slice A1_1 l1_1.length c1_1]) (t := 28) ?hr ?_; (case hd => rfl); (case hg => rfl); (case hr => (go_simp; done)); intro gb224 hg w5 hbox hb; have n0_ := am (Kd.V_below (Kd.V_elderB (by (with_reducible repeat (apply Kd.V_drew)); exact HO0_1.out) gb224 (Nat.le_of_eq hg.symm)) hb); have n1_ := am (blk_below (g := gb223) (o := .cells #[.int .i64 a0_0, .slice A0_1 l0_1.length c0_1] 28 (0, 0)) (by exact BK223.out) hb); have n2_ := am (below_step (by repeat ((with_reducible exact HB.out))) hb); have n3_ := am (hbox); have n4_ := am ((by rw [hg]; exact (below_size (by repeat ((with_reducible exact HB.out)))) : w.heap.size ≤ gb224)); have n5_ := am ((by rw [hg]; exact (below_size (by repeat ((with_reducible exact HB.out)))) : w.heap.size ≤ gb224)); have n6_ := am ((by rw [hg]; exact Nat.ne_of_lt (blk_lt (g := gb223) (o := .cells #[.int .i64 a0_0, .slice A0_1 l0_1.length c0_1] 28 (0, 0)) (by exact BK223.out)) : gb223 ≠ gb224)); have n7_ := am ((by rw [hg]; exact Nat.ne_of_gt (blk_lt (g := gb223) (o := .cells #[.int .i64 a0_0, .slice A0_1 l0_1.length c0_1] 28 (0, 0)) (by exact BK223.out)) : gb224 ≠ gb223)); clear HO0_1; clear BK223; clear HB; have HO0_1 := n0_; have BK223 := n1_; have HB := n2_; have BK224 := n3_; have GW224 := n4_; have GE224 := n5_; have NB223_224 := n6_; have NB224_223 := n7_; clear n0_ n1_ n2_ n3_ n4_ n5_ n6_ n7_; clear hb hbox hg) | ((with_reducible refine gate_dst (N := 6) rfl ?_); refine box_event ?hg (N := 6) ?hd (cs := #[.int .i64 0, .slice none 0 0]) (t := 28) ?hr ?_; (case hd => rfl); (case hg => rfl); (case hr => (go_simp; done)); intro gb225 hg w6 hbox hb; have n0_ := am (Kd.V_below (Kd.V_elderB (by (with_reducible repeat (apply Kd.V_drew)); exact HO0_1.out) gb225 (Nat.le_of_eq hg.symm)) hb); have n1_ := am (blk_below (g := gb223) (o := .cells #[.int .i64 a0_0, .slice A0_1 l0_1.length c0_1] 28 (0, 0)) (by exact BK223.out) hb); have n2_ := am (blk_below (g := gb224) (o := .cells #[.int .i64 a1_0, .slice A1_1 l1_1.length c1_1] 28 (0, 0)) (by exact BK224.out) hb); have n3_ := am (below_step (by repeat ((with_reducible exact HB.out))) hb); have n4_ := am (hbox); have n5_ := am ((by rw [hg]; exact (below_size (by repeat ((with_reducible exact HB.out)))) : w.heap.size ≤ gb225)); have n6_ := am ((by rw [hg]; exact (below_size (by repeat ((with_reducible exact HB.out)))) : w.heap.size ≤ gb225)); have n7_ := am ((by rw [hg]; exact Nat.ne_of_lt (blk_lt (g := gb223) (o := .cells #[.int .i64 a0_0, .slice A0_1 l0_1.length c0_1] 28 (0, 0)) (by exact BK223.out)) : gb223 ≠ gb225)); have n8_ := am ((by rw [hg]; exact Nat.ne_of_gt (blk_lt (g := gb223) (o := .cells #[.int .i64 a0_0, .slice A0_1 l0_1.length c0_1] 28 (0, 0)) (by exact BK223.out)) : gb225 ≠ gb223)); have n9_ := am ((by rw [hg]; exact Nat.ne_of_lt (blk_lt (g := gb224) (o := .cells #[.int .i64 a1_0, .slice A1_1 l1_1.length c1_1] 28 (0, 0)) (by exact BK224.out)) : gb224 ≠ gb225)); have n10_ := am ((by rw [hg]; exact Nat.ne_of_gt (blk_lt (g := gb224) (o := .cells #[.int .i64 a1_0, .slice A1_1 l1_1.length c1_1] 28 (0, 0)) (by exact BK224.out)) : gb225 ≠ gb224)); clear HO0_1; clear BK223; clear BK224; clear HB; have HO0_1 := n0_; have BK223 := n1_; have BK224 := n2_; have HB := n3_; have BK225 := n4_; have GW225 := n5_; have GE225 := n6_; have NB223_225 := n7_; have NB225_223 := n8_; have NB224_225 := n9_; have NB225_224 := n10_; clear n0_ n1_ n2_ n3_ n4_ n5_ n6_ n7_ n8_ n9_ n10_; clear hb hbox hg; have hnb7 := NB223_224.out; have hnc7 := NB224_223.out; have hnb8 := NB223_225.out; have hnc8 := NB225_223.out; have hcz9_0 : w6.cell? ⟨gb223, 0, none⟩ = some (.int .i64 a0_0) := (blk_cell BK223.out 0).trans rfl; have hcz9_1 : w6.cell? ⟨gb223, 1, none⟩ = some (.slice A0_1 l0_1.length c0_1) := (blk_cell BK223.out 1).trans rfl; have hfz9_0 := blk_frozen BK223.out 0; have hfz9_1 := blk_frozen BK223.out 1) | ((with_reducible refine gate_dst (N := 7) rfl ?_); refine box_event ?hg (N := 7) ?hd (cs := #[.int .i64 0, .slice none 0 0]) (t := 28) ?hr ?_; (case hd => rfl); (case hg => rfl); (case hr => (go_simp; done)); intro gb226 hg w10 hbox hb; have n0_ := am (Kd.V_below (Kd.V_elderB (by (with_reducible repeat (apply Kd.V_drew)); exact HO0_1.out) gb226 (Nat.le_of_eq hg.symm)) hb); have n1_ := am (blk_below (g := gb223) (o := .cells #[.int .i64 a0_0, .slice A0_1 l0_1.length c0_1] 28 (0, 0)) (by exact BK223.out) hb); have n2_ := am (blk_below (g := gb224) (o := .cells #[.int .i64 a1_0, .slice A1_1 l1_1.length c1_1] 28 (0, 0)) (by exact BK224.out) hb); have n3_ := am (blk_below (g := gb225) (o := .cells #[.int .i64 0, .slice none 0 0] 28 (0, 0)) (by exact BK225.out) hb); have n4_ := am (below_step (by repeat ((with_reducible exact HB.out))) hb); have n5_ := am (hbox); have n6_ := am ((by rw [hg]; exact (below_size (by repeat ((with_reducible exact HB.out)))) : w.heap.size ≤ gb226)); have n7_ := am ((by rw [hg]; exact (below_size (by repeat ((with_reducible exact HB.out)))) : w.heap.size ≤ gb226)); have n8_ := am ((by rw [hg]; exact Nat.ne_of_lt (blk_lt (g := gb223) (o := .cells #[.int .i64 a0_0, .slice A0_1 l0_1.length c0_1] 28 (0, 0)) (by exact BK223.out)) : gb223 ≠ gb226)); have n9_ := am ((by rw [hg]; exact Nat.ne_of_gt (blk_lt (g := gb223) (o := .cells #[.int .i64 a0_0, .slice A0_1 l0_1.length c0_1] 28 (0, 0)) (by exact BK223.out)) : gb226 ≠ gb223)); have n10_ := am ((by rw [hg]; exact Nat.ne_of_lt (blk_lt (g := gb224) (o := .cells #[.int .i64 a1_0, .slice A1_1 l1_1.length c1_1] 28 (0, 0)) (by exact BK224.out)) : gb224 ≠ gb226)); have n11_ := am ((by rw [hg]; exact Nat.ne_of_gt (blk_lt (g := gb224) (o := .cells #[.int .i64 a1_0, .slice A1_1 l1_1.length c1_1] 28 (0, 0)) (by exact BK224.out)) : gb226 ≠ gb224)); have n12_ := am ((by rw [hg]; exact Nat.ne_of_lt (blk_lt (g := gb225) (o := .cells #[.int .i64 0, .slice none 0 0] 28 (0, 0)) (by exact BK225.out)) : gb225 ≠ gb226)); have n13_ := am ((by rw [hg]; exact Nat.ne_of_gt (blk_lt (g := gb225) (o := .cells #[.int .i64 0, .slice none 0 0] 28 (0, 0)) (by exact BK225.out)) : gb226 ≠ gb225)); clear HO0_1; clear BK223; clear BK224; clear BK225; clear HB; have HO0_1 := n0_; have BK223 := n1_; have BK224 := n2_; have BK225 := n3_; have HB := n4_; have BK226 := n5_; have GW226 := n6_; have GE226 := n7_; have NB223_226 := n8_; have NB226_223 := n9_; have NB224_226 := n10_; have NB226_224 := n11_; have NB225_226 := n12_; have NB226_225 := n13_; clear n0_ n1_ n2_ n3_ n4_ n5_ n6_ n7_ n8_ n9_ n10_ n11_ n12_ n13_; clear hb hbox hg; have hnb11 := NB226_223.out; have hnc11 := NB223_226.out; have hnb12 := NB226_224.out; have hnc12 := NB224_226.out; have hnb13 := NB226_225.out; have hnc13 := NB225_226.out; have hcz14_0 : w10.cell? ⟨gb226, 0, none⟩ = some (.int .i64 0) := (blk_cell BK226.out 0).trans rfl; have hcz14_1 : w10.cell? ⟨gb226, 1, none⟩ = some (.slice none 0 0) := (blk_cell BK226.out 1).trans rfl; have hfz14_0 := blk_frozen BK226.out 0; have hfz14_1 := blk_frozen BK226.out 1))
 go_loopg [8] k (fun kq v8 w' => ∃ (x8_1 : Int) (x227000_1 : Int) (x227001_1 : List (S65)) (u227001 : Value), v8 = .int .i64 x8_1 ∧ Aside0 (spec_l03Plus.l0 kq a2 x8_1 a0_0 l0_1 a1_0 l1_1 x227000_1 x227001_1 = some (r1, r2)) ∧ Aside0 (kq ≤ k) ∧ Aside0 (Kd.V k65 65 w' w.heap.size (fun k_ => (P0_1_ k_ ∨ w.heap.size ≤ k_) ∧ k_ ≠ gb223 ∧ k_ ≠ gb224 ∧ k_ ≠ gb225 ∧ k_ ≠ gb226) (.slice A0_1 l0_1.length c0_1) l0_1) ∧ Aside0 (Kd.V k65 65 w' w.heap.size (fun k_ => (P0_1_ k_ ∨ w.heap.size ≤ k_) ∧ k_ ≠ gb223 ∧ k_ ≠ gb224 ∧ k_ ≠ gb225 ∧ k_ ≠ gb226) u227001 x227001_1) ∧ Aside0 (w'.heap[gb223]? = some (.cells #[.int .i64 a0_0, (.slice A0_1 l0_1.length c0_1)] 28 (0, 0))) ∧ Aside0 (w'.heap[gb224]? = some (.cells #[.int .i64 a1_0, (.slice A1_1 l1_1.length c1_1)] 28 (0, 0))) ∧ Aside0 (w'.heap[gb225]? = some (.cells #[.int .i64 0, (.slice none 0 0)] 28 (0, 0))) ∧ Aside0 (w'.heap[gb226]? = some (.cells #[.int .i64 x227000_1, u227001] 28 (0, 0))) ∧ Aside0 (Below w.heap.size w w'))
 case atStart => exact ⟨(0), (a0_0), (l0_1), (.slice A0_1 l0_1.length c0_1), (by rfl), H', ⟨Nat.le_refl _⟩, ⟨by (with_reducible repeat (apply Kd.V_drew)); exact Kd.V_mono (Kd.V_far (p := ⟨gb226, 1, none⟩) (Kd.V_far (p := ⟨gb226, 0, none⟩) (Kd.V_mono HO0_1.out (fun k_ hk => (⟨hk, hk.2⟩ : _ ∧ k_ ≠ gb226))) (fun _ hk => hk.2) (.int .i64 a0_0)) (fun _ hk => hk.2) (.slice A0_1 l0_1.length c0_1)) (fun _ hk => ⟨hk.1.1.1.1.1, ⟨hk.1.1.1.1.2, ⟨hk.1.1.1.2, ⟨hk.1.1.2, hk.1.2⟩⟩⟩⟩)⟩, ⟨by (with_reducible repeat (apply Kd.V_drew)); exact Kd.V_mono (Kd.V_far (p := ⟨gb226, 1, none⟩) (Kd.V_far (p := ⟨gb226, 0, none⟩) (Kd.V_mono HO0_1.out (fun k_ hk => (⟨hk, hk.2⟩ : _ ∧ k_ ≠ gb226))) (fun _ hk => hk.2) (.int .i64 a0_0)) (fun _ hk => hk.2) (.slice A0_1 l0_1.length c0_1)) (fun _ hk => ⟨hk.1.1.1.1.1, ⟨hk.1.1.1.1.2, ⟨hk.1.1.1.2, ⟨hk.1.1.2, hk.1.2⟩⟩⟩⟩)⟩, ⟨by (with_reducible repeat (refine blk_drew ?_)); refine blk_far ?_ NB223_226.out _; (with_reducible repeat (refine blk_drew ?_)); refine blk_far ?_ NB223_226.out _; (with_reducible repeat (refine blk_drew ?_)); exact BK223.out⟩, ⟨by (with_reducible repeat (refine blk_drew ?_)); refine blk_far ?_ NB224_226.out _; (with_reducible repeat (refine blk_drew ?_)); refine blk_far ?_ NB224_226.out _; (with_reducible repeat (refine blk_drew ?_)); exact BK224.out⟩, ⟨by (with_reducible repeat (refine blk_drew ?_)); refine blk_far ?_ NB225_226.out _; (with_reducible repeat (refine blk_drew ?_)); refine blk_far ?_ NB225_226.out _; (with_reducible repeat (refine blk_drew ?_)); exact BK225.out⟩, ⟨by (with_reducible repeat (refine blk_drew ?_)); refine blk_put (cs := #[.int .i64 a0_0, .slice none 0 0]) ?_ 1 _ rfl; (with_reducible repeat (refine blk_drew ?_)); refine blk_put (cs := #[.int .i64 0, .slice none 0 0]) ?_ 0 _ rfl; (with_reducible repeat (refine blk_drew ?_)); exact BK226.out⟩, ⟨by repeat ((with_reducible first | exact HB.out | refine below_set ?_ GE226.out))⟩⟩
 case round =>
  clear H'
  try clear c1
  try clear c2
  try clear p2
  try clear c7
  try clear c8
  try clear c11
  try clear c12
  try clear c13
  try clear hcz14_0
  try clear hcz14_1
  try clear hcz9_0
  try clear hcz9_1
  try clear hfz14_0
  try clear hfz14_1
  try clear hfz9_0
  try clear hfz9_1
  obtain ⟨x8_1, x227000_1, x227001_1, u227001, rfl, HA, HK1, HO_224001, HO_227001, BK223, BK224, BK225, BK226, HB⟩ := hrel
  cases gk with
  | zero => exact absurd HA.out (by simp [spec_l03Plus.l0])
  | succ k1 =>
   have H := HA.out
   clear HA
   simp only [spec_l03Plus.l0] at H
   by_cases c15 : x8_1 < (l1_1.length : Int)
   · rw [if_pos c15] at H
     have c15b0 : decide (x8_1 < (l1_1.length : Int)) = true := decide_eq_true c15
     clear c15
     by_cases c16 : 0 ≤ x8_1
     · rw [if_pos c16] at H
       have c16b0 : decide (0 ≤ x8_1) = true := decide_eq_true c16
       clear c16
       replace H := Option.bind_eq_some_iff.mp H
       obtain ⟨⟨t229, t230⟩, A170, H⟩ := H
       replace H : (spec_l03Plus.l0 k1 a2 (wrap64 (x8_1 + 1)) a0_0 l0_1 a1_0 l1_1 t229 t230) = some (r1, r2) := H
       have A17 := am A170
       clear A170
       have H' := am H
       clear H
       have hnb18 := NB224_223.out
       have hnc18 := NB223_224.out
       have hnb19 := NB224_225.out
       have hnc19 := NB225_224.out
       have hnb20 := NB224_226.out
       have hnc20 := NB226_224.out
       have hcz21_0 : wr.cell? ⟨gb224, 0, none⟩ = some (.int .i64 a1_0) := (blk_cell BK224.out 0).trans rfl
       have hcz21_1 : wr.cell? ⟨gb224, 1, none⟩ = some (.slice A1_1 l1_1.length c1_1) := (blk_cell BK224.out 1).trans rfl
       have hfz21_0 := blk_frozen BK224.out 0
       have hfz21_1 := blk_frozen BK224.out 1
       try go_wp2
       have n0_ := am (Kd.V_drew HO_224001.out)
       have n1_ := am (Kd.V_drew HO_227001.out)
       have n2_ := am (blk_drew BK223.out)
       have n3_ := am (blk_drew BK224.out)
       have n4_ := am (blk_drew BK225.out)
       have n5_ := am (blk_drew BK226.out)
       have n6_ := am (below_drew1 HB.out)
       clear HO_224001
       clear HO_227001
       clear BK223
       clear BK224
       clear BK225
       clear BK226
       clear HB
       have HO_224001 := n0_
       have HO_227001 := n1_
       have BK223 := n2_
       have BK224 := n3_
       have BK225 := n4_
       have BK226 := n5_
       have HB := n6_
       clear n0_ n1_ n2_ n3_ n4_ n5_ n6_
       have p227 : 0 ≤ (x8_1 : Int) := of_decide_eq_true (by (with_reducible assumption))
       have q227 : x8_1 < (l1_1.length : Int) := of_decide_eq_true (by (with_reducible assumption))
       obtain ⟨ad227, A227_0, c227_0, e227, hx227_0, hx227_1, hl227_0, hi227_0⟩ := at_T65 HR1_1.out x8_1 p227 q227
       have hw227_1 := hx227_1
       have hw227_0 := hx227_0
       cases e227
       replace hx227_0 := (HB.out.cell (World.block_lt_of_cell? w _ hx227_0)).trans hx227_0
       replace hx227_1 := (HB.out.cell (World.block_lt_of_cell? w _ hx227_1)).trans hx227_1
       have HR227_0 := am hi227_0
       have HC227_0 := am hl227_0
       clear hi227_0 hl227_0
       replace p227 := eq_true p227
       replace q227 := eq_true q227
       have p228 : 0 ≤ (x8_1 : Int) := of_decide_eq_true (by (with_reducible assumption))
       have q228 : x8_1 < (l1_1.length : Int) := of_decide_eq_true (by (with_reducible assumption))
       obtain ⟨ad228, A228_0, c228_0, e228, hx228_0, hx228_1, hl228_0, hi228_0⟩ := at_T65 HR1_1.out x8_1 p228 q228
       have hw228_1 := hx228_1
       have hw228_0 := hx228_0
       obtain rfl : ad227 = ad228 := (by injection e228)
       replace hx228_0 := (HB.out.cell (World.block_lt_of_cell? w _ hx228_0)).trans hx228_0
       replace hx228_1 := (HB.out.cell (World.block_lt_of_cell? w _ hx228_1)).trans hx228_1
       have HR228_0 := am hi228_0
       have HC228_0 := am hl228_0
       clear hi228_0 hl228_0
       replace p228 := eq_true p228
       replace q228 := eq_true q228
       have ea_ := Option.some.inj (hx227_0.symm.trans hx228_0)
       injection ea_ with ea_ en_ ec_
       subst ea_
       subst ec_
       clear en_
       obtain ⟨Ao23, co23, eo23⟩ := Kd.V_slice HO_227001.out
       (subst eo23)
       refine start_ (n := 17) (S := fun w' => w'.cell? ⟨gb226, 0, none⟩ = some (.int .i64 x227000_1) ∧ w'.cell? ⟨gb226, 1, none⟩ = some (.slice Ao23 x227001_1.length co23) ∧ w'.cell? ⟨gb224, 0, none⟩ = some (.int .i64 a1_0) ∧ w'.cell? ⟨gb224, 1, none⟩ = some (.slice (some ad227) l1_1.length c1_1) ∧ w'.cell? (ad227.add ((x8_1).toNat * 2)) = some (.slice A227_0 ((rd_T65 l1_1 x8_1).f0).length c227_0) ∧ w'.cell? ⟨(ad227.add ((x8_1).toNat * 2)).block, (ad227.add ((x8_1).toNat * 2)).off + 1, none⟩ = some (.int .i64 ((rd_T65 l1_1 x8_1).f1)) ∧ w'.cell? (ad227.add ((x8_1).toNat * 2)) = some (.slice A227_0 ((rd_T65 l1_1 x8_1).f0).length c227_0) ∧ w'.cell? ⟨(ad227.add ((x8_1).toNat * 2)).block, (ad227.add ((x8_1).toNat * 2)).off + 1, none⟩ = some (.int .i64 ((rd_T65 l1_1 x8_1).f1))) (ds := [16]) (bs 0 17) (by kernel_rfl) rfl rfl ⟨(blk_cell BK226.out 0).trans rfl, (blk_cell BK226.out 1).trans rfl, (blk_cell BK224.out 0).trans rfl, (blk_cell BK224.out 1).trans rfl, ((HB.out.cell (World.block_lt_of_cell? w _ hw227_0)).trans hw227_0), ((HB.out.cell (World.block_lt_of_cell? w _ hw227_1)).trans hw227_1), ((HB.out.cell (World.block_lt_of_cell? w _ hw228_0)).trans hw228_0), ((HB.out.cell (World.block_lt_of_cell? w _ hw228_1)).trans hw228_1)⟩ (fun hHeld => ?_); refine with_tabW spec_l03Plus.tab5 spec_l03Plus.bits5 (fun HT_ HW_ => ?_)
       generalize wr.drew = w22 at HO_224001 HO_227001 BK223 BK224 BK225 BK226 HB HR227_0 HR228_0 hx227_0 hx227_1 hx228_0 hx228_1 hHeld ⊢
       refine pure_ (i := 1) (N := some 19) (v := ?_) (a' := ?_) (bs 2 17) rfl rfl (any_of HT_.out (by kernel_rfl)) (fun _ _ _ h => h) (Or.inl ⟨by rfl, ?_⟩) ?_ ?_; rotate_left; intro w'; go_simp; with_reducible rfl; rotate_left; simp only [Act.put, q1, q2, q3, i64_w, i32_w]; rfl
       refine pure_ (i := 3) (N := some 21) (v := ?_) (a' := ?_) (bs 10 17) rfl rfl (any_of HT_.out (by kernel_rfl)) (fun _ _ _ h => h) (Or.inl ⟨by rfl, ?_⟩) ?_ ?_; rotate_left; intro w'; go_simp; with_reducible rfl; rotate_left; simp only [Act.put, q1, q2, q3, i64_w, i32_w]; rfl
       refine pure_ (i := 7) (N := some 25) (v := ?_) (a' := ?_) (bs 138 17) rfl rfl (any_of HT_.out (by kernel_rfl)) (fun _ _ _ h => h) (Or.inl ⟨by rfl, ?_⟩) ?_ ?_; rotate_left; intro w'; go_simp; with_reducible rfl; rotate_left; simp only [Act.put, q1, q2, q3, i64_w, i32_w]; rfl
       refine pure_ (i := 8) (N := some 26) (v := ?_) (a' := ?_) (bs 394 17) rfl rfl (any_of HT_.out (by kernel_rfl)) (fun _ _ _ h => h) (Or.inl ⟨by rfl, ?_⟩) ?_ ?_; rotate_left; intro w'; go_simp; with_reducible rfl; rotate_left; simp only [Act.put, q1, q2, q3, i64_w, i32_w]; rfl
       refine pure_ (i := 10) (N := some 28) (v := ?_) (a' := ?_) (bs 1418 17) rfl rfl (any_of HT_.out (by kernel_rfl)) (fun _ _ _ h => h) (Or.inl ⟨by rfl, ?_⟩) ?_ ?_; rotate_left; intro w'; go_simp; with_reducible rfl; rotate_left; simp only [Act.put, q1, q2, q3, i64_w, i32_w]; rfl
       refine take_ (i := 0) (N := some 18) (v := ?_) (a' := ?_) (bs 1419 17) rfl rfl (take_ofW HT_.out HW_.out (by kernel_rfl)) (fun _ _ _ h => h) (Or.inl ⟨by rfl, ?_⟩) hHeld ?_ ?_; rotate_left; rintro w' ⟨s0, s1, s2, s3, s4, s5, s6, s7⟩; go_simp; with_reducible rfl; rotate_left; simp only [Act.put, q1, q2, q3, i64_w, i32_w]; rfl
       refine take_ (i := 2) (N := some 20) (v := ?_) (a' := ?_) (bs 1423 17) rfl rfl (take_ofW HT_.out HW_.out (by kernel_rfl)) (fun _ _ _ h => h) (Or.inl ⟨by rfl, ?_⟩) hHeld ?_ ?_; rotate_left; rintro w' ⟨s0, s1, s2, s3, s4, s5, s6, s7⟩; go_simp; with_reducible rfl; rotate_left; simp only [Act.put, q1, q2, q3, i64_w, i32_w]; rfl
       refine pure_ (i := 4) (N := some 22) (v := ?_) (a' := ?_) (bs 1439 17) rfl rfl (any_of HT_.out (by kernel_rfl)) (fun _ _ _ h => h) (Or.inl ⟨by rfl, ?_⟩) ?_ ?_; rotate_left; intro w'; go_simp; with_reducible rfl; rotate_left; simp only [Act.put, q1, q2, q3, i64_w, i32_w]; rfl
       refine pure_ (i := 5) (N := some 23) (v := ?_) (a' := ?_) (bs 1471 17) rfl rfl (any_of HT_.out (by kernel_rfl)) (fun _ _ _ h => h) (Or.inl ⟨by rfl, ?_⟩) ?_ ?_; rotate_left; intro w'; go_simp; with_reducible rfl; rotate_left; simp only [Act.put, q1, q2, q3, i64_w, i32_w]; rfl
       refine take_ (i := 6) (N := some 24) (v := ?_) (a' := ?_) (bs 1535 17) rfl rfl (take_ofW HT_.out HW_.out (by kernel_rfl)) (fun _ _ _ h => h) (Or.inl ⟨by rfl, ?_⟩) hHeld ?_ ?_; rotate_left; rintro w' ⟨s0, s1, s2, s3, s4, s5, s6, s7⟩; go_simp; with_reducible rfl; rotate_left; simp only [Act.put, q1, q2, q3, i64_w, i32_w]; rfl
       refine take_ (i := 9) (N := some 27) (v := ?_) (a' := ?_) (bs 2047 17) rfl rfl (take_ofW HT_.out HW_.out (by kernel_rfl)) (fun _ _ _ h => h) (Or.inl ⟨by rfl, ?_⟩) hHeld ?_ ?_; rotate_left; rintro w' ⟨s0, s1, s2, s3, s4, s5, s6, s7⟩; go_simp; with_reducible rfl; rotate_left; simp only [Act.put, q1, q2, q3, i64_w, i32_w]; rfl
       refine pure_ (i := 11) (N := some 29) (v := ?_) (a' := ?_) (bs 4095 17) rfl rfl (any_of HT_.out (by kernel_rfl)) (fun _ _ _ h => h) (Or.inl ⟨by rfl, ?_⟩) ?_ ?_; rotate_left; intro w'; go_simp; with_reducible rfl; rotate_left; simp only [Act.put, q1, q2, q3, i64_w, i32_w]; rfl
       refine pure_ (i := 12) (N := some 30) (v := ?_) (a' := ?_) (bs 8191 17) rfl rfl (any_of HT_.out (by kernel_rfl)) (fun _ _ _ h => h) (Or.inl ⟨by rfl, ?_⟩) ?_ ?_; rotate_left; intro w'; go_simp; with_reducible rfl; rotate_left; simp only [Act.put, q1, q2, q3, i64_w, i32_w]; rfl
       refine take_ (i := 13) (N := some 31) (v := ?_) (a' := ?_) (bs 16383 17) rfl rfl (take_ofW HT_.out HW_.out (by kernel_rfl)) (fun _ _ _ h => h) (Or.inl ⟨by rfl, ?_⟩) hHeld ?_ ?_; rotate_left; rintro w' ⟨s0, s1, s2, s3, s4, s5, s6, s7⟩; go_simp; with_reducible rfl; rotate_left; simp only [Act.put, q1, q2, q3, i64_w, i32_w]; rfl
       refine pure_ (i := 14) (N := some 32) (v := ?_) (a' := ?_) (bs 32767 17) rfl rfl (any_of HT_.out (by kernel_rfl)) (fun _ _ _ h => h) (Or.inl ⟨by rfl, ?_⟩) ?_ ?_; rotate_left; intro w'; go_simp; with_reducible rfl; rotate_left; simp only [Act.put, q1, q2, q3, i64_w, i32_w]; rfl
       refine one_ (i := 15) (N := some 33) (bs 65535 17) rfl rfl (one_of HT_.out (by kernel_rfl)) (by decide) (fun K hK => ?_)
       refine goes_ Try.func33 (by kernel_rfl) rfl #[.agg #[.int .i64 x227000_1, .slice Ao23 x227001_1.length co23], .slice A227_0 ((rd_T65 l1_1 x8_1).f0).length c227_0, .int .i64 (wrap64 (a2 * ((rd_T65 l1_1 x8_1).f1)))] (by rfl) rfl rfl (by (try simp only [List.map_toArray, List.map_cons, List.map_nil]); rfl) ?_
       with_reducible refine (spec_l03Put.calls k1 x227000_1 _ _ x227001_1 _ _ ((rd_T65 l1_1 x8_1).f0) (wrap64 (a2 * ((rd_T65 l1_1 x8_1).f1))) t229 t230 _ ?side1 ?side2 ?side3 ?side4 A17.out).mono ?_
       (case side1 => repeat (exact (Kd.V_reads' HO_227001.out).2.2))
       (case side2 => exact (Kd.V_reads' HO_227001.out).2.1)
       (case side3 => repeat (exact (Kd.C_below HR227_0.out HB.out)))
       (case side4 => exact HC227_0.out)
       rintro e w24 ⟨v231, rfl, ho0, hb⟩
       refine ⟨_, rfl, ?_⟩
       have n0_ := am (Kd.V_elder' (by (with_reducible repeat (apply Kd.V_drew)); exact HO_224001.out) (Kd.S_base ho0) hb)
       have n1_ := am (Kd.V_elder' (by (with_reducible repeat (apply Kd.V_drew)); exact HO_227001.out) (Kd.S_base ho0) hb)
       have n2_ := am (Kd.S_lower (Kd.S_newM (M := fun k_ => (w.heap.size ≤ k_)) ho0 (below_size (by repeat ((with_reducible exact HB.out)))) (fun k_ h_ => h_)) (below_size (by repeat ((with_reducible exact HB.out)))))
       have n3_ := am (blk_below (g := gb223) (o := .cells #[.int .i64 a0_0, .slice A0_1 l0_1.length c0_1] 28 (0, 0)) (by exact BK223.out) hb)
       have n4_ := am (blk_below (g := gb224) (o := .cells #[.int .i64 a1_0, .slice (some ad227) l1_1.length c1_1] 28 (0, 0)) (by exact BK224.out) hb)
       have n5_ := am (blk_below (g := gb225) (o := .cells #[.int .i64 0, .slice none 0 0] 28 (0, 0)) (by exact BK225.out) hb)
       have n6_ := am (blk_below (g := gb226) (o := .cells #[.int .i64 x227000_1, .slice Ao23 x227001_1.length co23] 28 (0, 0)) (by exact BK226.out) hb)
       have n7_ := am (below_step (by repeat ((with_reducible exact HB.out))) hb)
       clear HO_224001
       clear HO_227001
       clear BK223
       clear BK224
       clear BK225
       clear BK226
       clear HB
       have HO_224001 := n0_
       have HO_227001 := n1_
       have HO232 := n2_
       have BK223 := n3_
       have BK224 := n4_
       have BK225 := n5_
       have BK226 := n6_
       have HB := n7_
       clear n0_ n1_ n2_ n3_ n4_ n5_ n6_ n7_
       (try clear hb)
       (try clear hb2)
       (try clear hk)
       (try clear hi)
       (try clear ho0)
       obtain ⟨Ao26, co26, eo26⟩ := Kd.S_slice HO232.out
       (subst eo26)
       refine hK.out _ _ ⟨(blk_cell BK226.out 0).trans rfl, (blk_cell BK226.out 1).trans rfl, (blk_cell BK224.out 0).trans rfl, (blk_cell BK224.out 1).trans rfl, ((HB.out.cell (World.block_lt_of_cell? w _ hw227_0)).trans hw227_0), ((HB.out.cell (World.block_lt_of_cell? w _ hw227_1)).trans hw227_1), ((HB.out.cell (World.block_lt_of_cell? w _ hw228_0)).trans hw228_0), ((HB.out.cell (World.block_lt_of_cell? w _ hw228_1)).trans hw228_1)⟩ (fun hHeld => ?_)
       clear hK K
       refine norm_ (a' := ?_) ?_ ?_; rotate_left; show Act.put _ (some 33) _ = _; simp only [Act.put, q1, q2, q3, i64_w, i32_w]; rfl
       refine last_ (i := 16) (N := none) (bs 131071 17) rfl rfl (one_of HT_.out (by kernel_rfl)) (by decide) (fun K hK => ?_)
       have hs25 : w24.cell? ⟨gb226, 0, none⟩ = some (.int .i64 x227000_1) := (blk_cell BK226.out 0).trans rfl
       have hfs25 := blk_frozen BK226.out 0
       have hns25_0 := NB223_226.out
       have hns25_1 := NB224_226.out
       have hns25_2 := NB225_226.out
       have hms25_0 := NB226_223.out
       have hms25_1 := NB226_224.out
       have hms25_2 := NB226_225.out
       have hs27 : w24.cell? ⟨gb226, 1, none⟩ = some (.slice Ao23 x227001_1.length co23) := (blk_cell BK226.out 1).trans rfl
       have hfs27 := blk_frozen BK226.out 1
       have hns27_0 := NB223_226.out
       have hns27_1 := NB224_226.out
       have hns27_2 := NB225_226.out
       have hms27_0 := NB226_223.out
       have hms27_1 := NB226_224.out
       have hms27_2 := NB226_225.out
       refine skip_ (w1 := ?_) (by rfl) rfl ?_ ?_
       rotate_left
       · go_simp
         rfl
       refine hK.out _ _ ?_
       clear hK K
       refine done_ (done_of HT_.out (by kernel_rfl)) ?_
       try go_wp2
       go_roundg k1
       case measure => have := HK1.out; omega
       case rel => exact ⟨(wrap64 (x8_1 + 1)), (t229), (t230), (.slice Ao26 t230.length co26), (by rfl), H', ⟨by have := HK1.out; omega⟩, ⟨by (with_reducible repeat (apply Kd.V_drew)); exact Kd.V_mono (Kd.V_far (p := ⟨gb226, 1, none⟩) (Kd.V_far (p := ⟨gb226, 0, none⟩) (Kd.V_mono HO_224001.out (fun k_ hk => (⟨hk, hk.1.2.2.2.2⟩ : _ ∧ k_ ≠ gb226))) (fun _ hk => hk.2) (.int .i64 t229)) (fun _ hk => hk.2) (.slice Ao26 t230.length co26)) (fun _ hk => ⟨hk.1.1.1, ⟨hk.1.1.2.1, ⟨hk.1.1.2.2.1, ⟨hk.1.1.2.2.2.1, hk.1.1.2.2.2.2⟩⟩⟩⟩)⟩, ⟨Kd.S_V (by (with_reducible repeat (apply Kd.S_drew)); exact Kd.S_mono (Kd.S_far (p := ⟨gb226, 1, none⟩) (Kd.S_far (p := ⟨gb226, 0, none⟩) (Kd.S_types (Kd.S_types (Kd.S_types (Kd.S_types (Kd.S_types HO232.out BK223.out (by decide)) BK224.out (by decide)) BK225.out (by decide)) BK226.out (by decide)) BK226.out (by decide)) (fun _ hk => hk.2) (.int .i64 t229)) (fun _ hk => hk.2) (.slice Ao26 t230.length co26)) (fun _ hk => ⟨.inr (hk.1.1.1.1.1.1), ⟨hk.1.1.1.1.2, ⟨hk.1.1.1.2, ⟨hk.1.1.2, hk.1.2⟩⟩⟩⟩))⟩, ⟨by (with_reducible repeat (refine blk_drew ?_)); refine blk_far ?_ NB223_226.out _; (with_reducible repeat (refine blk_drew ?_)); refine blk_far ?_ NB223_226.out _; (with_reducible repeat (refine blk_drew ?_)); exact BK223.out⟩, ⟨by (with_reducible repeat (refine blk_drew ?_)); refine blk_far ?_ NB224_226.out _; (with_reducible repeat (refine blk_drew ?_)); refine blk_far ?_ NB224_226.out _; (with_reducible repeat (refine blk_drew ?_)); exact BK224.out⟩, ⟨by (with_reducible repeat (refine blk_drew ?_)); refine blk_far ?_ NB225_226.out _; (with_reducible repeat (refine blk_drew ?_)); refine blk_far ?_ NB225_226.out _; (with_reducible repeat (refine blk_drew ?_)); exact BK225.out⟩, ⟨by (with_reducible repeat (refine blk_drew ?_)); refine blk_put (cs := #[.int .i64 t229, .slice Ao23 x227001_1.length co23]) ?_ 1 _ rfl; (with_reducible repeat (refine blk_drew ?_)); refine blk_put (cs := #[.int .i64 x227000_1, .slice Ao23 x227001_1.length co23]) ?_ 0 _ rfl; (with_reducible repeat (refine blk_drew ?_)); exact BK226.out⟩, ⟨by repeat ((with_reducible first | exact HB.out | refine below_set ?_ GE226.out))⟩⟩
     · rw [if_neg c16] at H
       exact absurd H (by simp)
   · rw [if_neg c15] at H
     have c15b0 : decide (x8_1 < (l1_1.length : Int)) = false := decide_eq_false c15
     clear c15
     by_cases c28 : (l1_1.length : Int) = 0
     · rw [if_pos c28] at H
       have c28b0 : ((l1_1.length : Int) == 0) = true := beq_iff_eq.mpr c28
       have c28b1 : ((l1_1.length : Int) != 0) = false := bne_eq_false_iff_eq.mpr c28
       clear c28
       replace H := Option.bind_eq_some_iff.mp H
       obtain ⟨⟨t233, t234⟩, A290, H⟩ := H
       replace H : (spec_l03Plus.l1 k1 0 a0_0 l0_1 t233 t234) = some (r1, r2) := H
       have A29 := am A290
       clear A290
       have H' := am H
       clear H
       have hnb30 := NB224_223.out
       have hnc30 := NB223_224.out
       have hnb31 := NB224_225.out
       have hnc31 := NB225_224.out
       have hnb32 := NB224_226.out
       have hnc32 := NB226_224.out
       have hcz33_0 : wr.cell? ⟨gb224, 0, none⟩ = some (.int .i64 a1_0) := (blk_cell BK224.out 0).trans rfl
       have hcz33_1 : wr.cell? ⟨gb224, 1, none⟩ = some (.slice A1_1 l1_1.length c1_1) := (blk_cell BK224.out 1).trans rfl
       have hfz33_0 := blk_frozen BK224.out 0
       have hfz33_1 := blk_frozen BK224.out 1
       have hnb34 := NB223_225.out
       have hnc34 := NB225_223.out
       have hnb35 := NB223_226.out
       have hnc35 := NB226_223.out
       have hcz36_0 : wr.cell? ⟨gb223, 0, none⟩ = some (.int .i64 a0_0) := (blk_cell BK223.out 0).trans rfl
       have hcz36_1 : wr.cell? ⟨gb223, 1, none⟩ = some (.slice A0_1 l0_1.length c0_1) := (blk_cell BK223.out 1).trans rfl
       have hfz36_0 := blk_frozen BK223.out 0
       have hfz36_1 := blk_frozen BK223.out 1
       go_wp2_with (((with_reducible refine gate_callee (f := 34) rfl ?_); refine goesL_ (some 40) rfl rfl Try.func34 (by kernel_rfl) rfl #[.int .i64 a0_0] rfl (by (try simp only [List.map_toArray, List.map_cons, List.map_nil]); rfl) ?_; (with_reducible refine (spec_l03Empty.calls a0_0 t233 t234 _ A29.out).mono ?_); rintro e w37 ⟨v235, rfl, ho0, hb⟩; refine ⟨_, rfl, ?_⟩; have n0_ := am (Kd.V_elder' (by (with_reducible repeat (apply Kd.V_drew)); exact HO_224001.out) (Kd.S_base ho0) hb); have n1_ := am (Kd.V_elder' (by (with_reducible repeat (apply Kd.V_drew)); exact HO_227001.out) (Kd.S_base ho0) hb); have n2_ := am (Kd.S_lower (Kd.S_newM (M := fun k_ => (w.heap.size ≤ k_)) ho0 (below_size (by repeat ((with_reducible exact HB.out)))) (fun k_ h_ => h_)) (below_size (by repeat ((with_reducible exact HB.out))))); have n3_ := am (blk_below (g := gb223) (o := .cells #[.int .i64 a0_0, .slice A0_1 l0_1.length c0_1] 28 (0, 0)) (by exact BK223.out) hb); have n4_ := am (blk_below (g := gb224) (o := .cells #[.int .i64 a1_0, .slice A1_1 l1_1.length c1_1] 28 (0, 0)) (by exact BK224.out) hb); have n5_ := am (blk_below (g := gb225) (o := .cells #[.int .i64 0, .slice none 0 0] 28 (0, 0)) (by exact BK225.out) hb); have n6_ := am (blk_below (g := gb226) (o := .cells #[.int .i64 x227000_1, u227001] 28 (0, 0)) (by exact BK226.out) hb); have n7_ := am (below_step (by repeat ((with_reducible exact HB.out))) hb); clear HO_224001; clear HO_227001; clear BK223; clear BK224; clear BK225; clear BK226; clear HB; have HO_224001 := n0_; have HO_227001 := n1_; have HO236 := n2_; have BK223 := n3_; have BK224 := n4_; have BK225 := n5_; have BK226 := n6_; have HB := n7_; clear n0_ n1_ n2_ n3_ n4_ n5_ n6_ n7_; (try clear hb); (try clear hb2); (try clear hk); (try clear hi); (try clear ho0); have hnb38 := NB226_225.out; have hnc38 := NB225_226.out; have hcz39_0 : w37.cell? ⟨gb226, 0, none⟩ = some (.int .i64 x227000_1) := (blk_cell BK226.out 0).trans rfl; have hcz39_1 : w37.cell? ⟨gb226, 1, none⟩ = some (u227001) := (blk_cell BK226.out 1).trans rfl; have hfz39_0 := blk_frozen BK226.out 0; have hfz39_1 := blk_frozen BK226.out 1; obtain ⟨Ao40, co40, eo40⟩ := Kd.S_slice HO236.out; subst eo40))
       go_loopg [9] k1 (fun kq v9 w' => ∃ (x9_2 : Int) (x227001_2 : List (S65)) (u227001 : Value), v9 = .int .i64 x9_2 ∧ Aside0 (spec_l03Plus.l1 kq x9_2 a0_0 l0_1 t233 x227001_2 = some (r1, r2)) ∧ Aside0 (kq ≤ k1) ∧ Aside0 (Kd.V k65 65 w' w.heap.size (fun k_ => (P0_1_ k_ ∨ w.heap.size ≤ k_) ∧ some k_ ≠ (u227001 : Value).ownBlock ∧ k_ ≠ gb223 ∧ k_ ≠ gb224 ∧ k_ ≠ gb225 ∧ k_ ≠ gb226) (.slice A0_1 l0_1.length c0_1) l0_1) ∧ Aside0 (Kd.S k65 65 w' w.heap.size (fun k_ => (w.heap.size ≤ k_)) u227001 x227001_2) ∧ Aside0 (w'.heap[gb223]? = some (.cells #[.int .i64 a0_0, (.slice A0_1 l0_1.length c0_1)] 28 (0, 0))) ∧ Aside0 (w'.heap[gb224]? = some (.cells #[.int .i64 a1_0, (.slice A1_1 l1_1.length c1_1)] 28 (0, 0))) ∧ Aside0 (w'.heap[gb225]? = some (.cells #[.int .i64 0, (.slice none 0 0)] 28 (0, 0))) ∧ Aside0 (w'.heap[gb226]? = some (.cells #[.int .i64 t233, u227001] 28 (0, 0))) ∧ Aside0 (Below w.heap.size w w'))
       case atStart => exact ⟨(0), (t234), (.slice Ao40 t234.length co40), (by rfl), H', ⟨Nat.le_refl _⟩, ⟨by (with_reducible repeat (apply Kd.V_drew)); exact Kd.V_mono (Kd.V_far (p := ⟨gb226, 1, none⟩) (Kd.V_far (p := ⟨gb226, 0, none⟩) (Kd.V_mono HO_224001.out (fun k_ hk => (⟨hk, hk.1.2.2.2.2⟩ : _ ∧ k_ ≠ gb226))) (fun _ hk => hk.2) (.int .i64 t233)) (fun _ hk => hk.2) (.slice Ao40 t234.length co40)) (fun _ hk => ⟨hk.1.1.1, ⟨hk.1.2, ⟨hk.1.1.2.1, ⟨hk.1.1.2.2.1, ⟨hk.1.1.2.2.2.1, hk.1.1.2.2.2.2⟩⟩⟩⟩⟩)⟩, ⟨by (with_reducible repeat (apply Kd.S_drew)); exact Kd.S_mono (Kd.S_far (p := ⟨gb226, 1, none⟩) (Kd.S_far (p := ⟨gb226, 0, none⟩) (Kd.S_types HO236.out BK226.out (by decide)) (fun _ hk => hk.2) (.int .i64 t233)) (fun _ hk => hk.2) (.slice Ao40 t234.length co40)) (fun _ hk => hk.1.1)⟩, ⟨by (with_reducible repeat (refine blk_drew ?_)); refine blk_far ?_ NB223_226.out _; (with_reducible repeat (refine blk_drew ?_)); refine blk_far ?_ NB223_226.out _; (with_reducible repeat (refine blk_drew ?_)); exact BK223.out⟩, ⟨by (with_reducible repeat (refine blk_drew ?_)); refine blk_far ?_ NB224_226.out _; (with_reducible repeat (refine blk_drew ?_)); refine blk_far ?_ NB224_226.out _; (with_reducible repeat (refine blk_drew ?_)); exact BK224.out⟩, ⟨by (with_reducible repeat (refine blk_drew ?_)); refine blk_far ?_ NB225_226.out _; (with_reducible repeat (refine blk_drew ?_)); refine blk_far ?_ NB225_226.out _; (with_reducible repeat (refine blk_drew ?_)); exact BK225.out⟩, ⟨by (with_reducible repeat (refine blk_drew ?_)); refine blk_put (cs := #[.int .i64 t233, u227001]) ?_ 1 _ rfl; (with_reducible repeat (refine blk_drew ?_)); refine blk_put (cs := #[.int .i64 x227000_1, u227001]) ?_ 0 _ rfl; (with_reducible repeat (refine blk_drew ?_)); exact BK226.out⟩, ⟨by repeat ((with_reducible first | exact HB.out | refine below_set ?_ GE226.out))⟩⟩
       case round =>
        clear H'
        try clear c1
        try clear c2
        try clear p2
        try clear q2
        try clear hx2
        try clear c3
        try clear p6
        try clear c7
        try clear c8
        try clear c11
        try clear c12
        try clear c13
        try clear c15
        try clear c15b0
        try clear c16
        try clear c16b0
        try clear c18
        try clear c19
        try clear c20
        try clear c21
        try clear c22
        try clear p22
        try clear q22
        try clear hx22
        try clear c28
        try clear c28b0
        try clear c28b1
        try clear c30
        try clear c31
        try clear c32
        try clear c33
        try clear c34
        try clear c35
        try clear c38
        try clear hcz14_0
        try clear hcz14_1
        try clear hcz21_0
        try clear hcz21_1
        try clear hcz33_0
        try clear hcz33_1
        try clear hcz36_0
        try clear hcz36_1
        try clear hcz39_0
        try clear hcz39_1
        try clear hcz9_0
        try clear hcz9_1
        try clear hfz14_0
        try clear hfz14_1
        try clear hfz21_0
        try clear hfz21_1
        try clear hfz33_0
        try clear hfz33_1
        try clear hfz36_0
        try clear hfz36_1
        try clear hfz39_0
        try clear hfz39_1
        try clear hfz9_0
        try clear hfz9_1
        try clear hx227_0
        try clear hx227_1
        try clear hx228_0
        try clear hx228_1
        try clear p2
        try clear p227
        try clear p228
        try clear q227
        try clear q228
        obtain ⟨x9_2, x227001_2, u227001, rfl, HA, HK2, HO_224001, HO_227001, BK223, BK224, BK225, BK226, HB⟩ := hrel
        cases gk with
        | zero => exact absurd HA.out (by simp [spec_l03Plus.l1])
        | succ k2 =>
         have H := HA.out
         clear HA
         simp only [spec_l03Plus.l1] at H
         by_cases c41 : x9_2 < (l0_1.length : Int)
         · rw [if_pos c41] at H
           have c41b0 : decide (x9_2 < (l0_1.length : Int)) = true := decide_eq_true c41
           clear c41
           by_cases c42 : 0 ≤ x9_2
           · rw [if_pos c42] at H
             have c42b0 : decide (0 ≤ x9_2) = true := decide_eq_true c42
             clear c42
             replace H := Option.bind_eq_some_iff.mp H
             obtain ⟨t238, A430, H⟩ := H
             replace H : (if x227001_2.length < 4398046511104 then (spec_l03Plus.l1 k2 (wrap64 (x9_2 + 1)) a0_0 l0_1 t233 (x227001_2 ++ [(⟨t238, (rd_T65 l0_1 x9_2).f1⟩ : S65)])) else (none)) = some (r1, r2) := H
             have A43 := am A430
             clear A430
             by_cases c44 : x227001_2.length < 4398046511104
             · rw [if_pos c44] at H
               have LMc44 := am c44
               clear c44
               obtain ⟨y242, hy242⟩ : ∃ y_ : List (S65), y_ = (x227001_2 ++ [(⟨t238, (rd_T65 l0_1 x9_2).f1⟩ : S65)]) := ⟨_, rfl⟩
               replace H : (spec_l03Plus.l1 k2 (wrap64 (x9_2 + 1)) a0_0 l0_1 t233 y242) = some (r1, r2) := by (rw [hy242]; with_reducible exact H)
               have Ny242 := am hy242
               clear hy242
               have H' := am H
               clear H
               have hnb45 := NB223_224.out
               have hnc45 := NB224_223.out
               have hnb46 := NB223_225.out
               have hnc46 := NB225_223.out
               have hnb47 := NB223_226.out
               have hnc47 := NB226_223.out
               have hcz48_0 : wr.cell? ⟨gb223, 0, none⟩ = some (.int .i64 a0_0) := (blk_cell BK223.out 0).trans rfl
               have hcz48_1 : wr.cell? ⟨gb223, 1, none⟩ = some (.slice A0_1 l0_1.length c0_1) := (blk_cell BK223.out 1).trans rfl
               have hfz48_0 := blk_frozen BK223.out 0
               have hfz48_1 := blk_frozen BK223.out 1
               try go_wp2
               have n0_ := am (Kd.V_drew HO_224001.out)
               have n1_ := am (Kd.S_drew HO_227001.out)
               have n2_ := am (blk_drew BK223.out)
               have n3_ := am (blk_drew BK224.out)
               have n4_ := am (blk_drew BK225.out)
               have n5_ := am (blk_drew BK226.out)
               have n6_ := am (below_drew1 HB.out)
               clear HO_224001
               clear HO_227001
               clear BK223
               clear BK224
               clear BK225
               clear BK226
               clear HB
               have HO_224001 := n0_
               have HO_227001 := n1_
               have BK223 := n2_
               have BK224 := n3_
               have BK225 := n4_
               have BK226 := n5_
               have HB := n6_
               clear n0_ n1_ n2_ n3_ n4_ n5_ n6_
               have p237 : 0 ≤ (x9_2 : Int) := of_decide_eq_true (by (with_reducible assumption))
               have q237 : x9_2 < (l0_1.length : Int) := of_decide_eq_true (by (with_reducible assumption))
               obtain ⟨ad237, A237_0, c237_0, e237, hx237_0, hx237_1, hl237_0, hi237_0⟩ := at_T65 (Kd.V_reads' HO_224001.out).2.2 x9_2 p237 q237
               cases e237
               obtain ⟨ce237, hce237, hMe237, hcc237⟩ := Kd.V_get HO_224001.out z65 x9_2 p237 (by exact q237)
               obtain ⟨ua237_0, uc237_0, rfl, ul237_0, ge237_0⟩ := k65_openF hMe237
               have hv237_0 := hcc237 0 _ rfl
               rw [Nat.add_zero] at hv237_0
               replace hv237_0 := Option.some.inj (hv237_0.symm.trans hx237_0)
               injection hv237_0 with hva_ hvn_ hvc_
               rw [hva_] at ge237_0
               rw [hvc_] at ul237_0
               have HL237_0 := am (show Kd.V (Kd.int .i64) 2 _ w.heap.size _ _ ((rd_T65 l0_1 x9_2).f0) from Kd.V_mk ul237_0 ge237_0)
               clear hva_ hvn_ hvc_ ge237_0 ul237_0
               clear hcc237 hce237
               have HR237_0 := am hi237_0
               have HC237_0 := am hl237_0
               clear hi237_0 hl237_0
               replace p237 := eq_true p237
               replace q237 := eq_true q237
               have p241 : 0 ≤ (x9_2 : Int) := of_decide_eq_true (by (with_reducible assumption))
               have q241 : x9_2 < (l0_1.length : Int) := of_decide_eq_true (by (with_reducible assumption))
               obtain ⟨ad241, A241_0, c241_0, e241, hx241_0, hx241_1, hl241_0, hi241_0⟩ := at_T65 (Kd.V_reads' HO_224001.out).2.2 x9_2 p241 q241
               obtain rfl : ad237 = ad241 := (by injection e241)
               obtain ⟨ce241, hce241, hMe241, hcc241⟩ := Kd.V_get HO_224001.out z65 x9_2 p241 (by exact q241)
               obtain ⟨ua241_0, uc241_0, rfl, ul241_0, ge241_0⟩ := k65_openF hMe241
               have hv241_0 := hcc241 0 _ rfl
               rw [Nat.add_zero] at hv241_0
               replace hv241_0 := Option.some.inj (hv241_0.symm.trans hx241_0)
               injection hv241_0 with hva_ hvn_ hvc_
               rw [hva_] at ge241_0
               rw [hvc_] at ul241_0
               have HL241_0 := am (show Kd.V (Kd.int .i64) 2 _ w.heap.size _ _ ((rd_T65 l0_1 x9_2).f0) from Kd.V_mk ul241_0 ge241_0)
               clear hva_ hvn_ hvc_ ge241_0 ul241_0
               clear hcc241 hce241
               have HR241_0 := am hi241_0
               have HC241_0 := am hl241_0
               clear hi241_0 hl241_0
               replace p241 := eq_true p241
               replace q241 := eq_true q241
               have ea_ := Option.some.inj (hx237_0.symm.trans hx241_0)
               injection ea_ with ea_ en_ ec_
               subst ea_
               subst ec_
               clear en_
               refine start_ (n := 20) (S := fun w' => w'.cell? ⟨gb226, 0, none⟩ = some (.int .i64 t233) ∧ w'.cell? ⟨gb226, 1, none⟩ = some (u227001) ∧ w'.cell? ⟨gb223, 0, none⟩ = some (.int .i64 a0_0) ∧ w'.cell? ⟨gb223, 1, none⟩ = some (.slice (some ad237) l0_1.length c0_1) ∧ w'.cell? (ad237.add ((x9_2).toNat * 2)) = some (.slice A237_0 ((rd_T65 l0_1 x9_2).f0).length c237_0) ∧ w'.cell? ⟨(ad237.add ((x9_2).toNat * 2)).block, (ad237.add ((x9_2).toNat * 2)).off + 1, none⟩ = some (.int .i64 ((rd_T65 l0_1 x9_2).f1)) ∧ w'.cell? (ad237.add ((x9_2).toNat * 2)) = some (.slice A237_0 ((rd_T65 l0_1 x9_2).f0).length c237_0) ∧ w'.cell? ⟨(ad237.add ((x9_2).toNat * 2)).block, (ad237.add ((x9_2).toNat * 2)).off + 1, none⟩ = some (.int .i64 ((rd_T65 l0_1 x9_2).f1))) (ds := [17, 19]) (bs 0 20) (by kernel_rfl) rfl rfl ⟨(blk_cell BK226.out 0).trans rfl, (blk_cell BK226.out 1).trans rfl, (blk_cell BK223.out 0).trans rfl, (blk_cell BK223.out 1).trans rfl, hx237_0, hx237_1, hx241_0, hx241_1⟩ (fun hHeld => ?_); refine with_tabW spec_l03Plus.tab11 spec_l03Plus.bits11 (fun HT_ HW_ => ?_)
               generalize wr.drew = w49 at HO_224001 HO_227001 BK223 BK224 BK225 BK226 HB HL237_0 HL241_0 HR237_0 HR241_0 hx237_0 hx237_1 hx241_0 hx241_1 hHeld ⊢
               refine pure_ (i := 0) (N := some 48) (v := ?_) (a' := ?_) (bs 1 20) rfl rfl (any_of HT_.out (by kernel_rfl)) (fun _ _ _ h => h) (Or.inl ⟨by rfl, ?_⟩) ?_ ?_; rotate_left; intro w'; go_simp; with_reducible rfl; rotate_left; simp only [Act.put, q1, q2, q3, i64_w, i32_w]; rfl
               refine pure_ (i := 2) (N := some 50) (v := ?_) (a' := ?_) (bs 5 20) rfl rfl (any_of HT_.out (by kernel_rfl)) (fun _ _ _ h => h) (Or.inl ⟨by rfl, ?_⟩) ?_ ?_; rotate_left; intro w'; go_simp; with_reducible rfl; rotate_left; simp only [Act.put, q1, q2, q3, i64_w, i32_w]; rfl
               refine pure_ (i := 4) (N := some 52) (v := ?_) (a' := ?_) (bs 21 20) rfl rfl (any_of HT_.out (by kernel_rfl)) (fun _ _ _ h => h) (Or.inl ⟨by rfl, ?_⟩) ?_ ?_; rotate_left; intro w'; go_simp; with_reducible rfl; rotate_left; simp only [Act.put, q1, q2, q3, i64_w, i32_w]; rfl
               refine pure_ (i := 9) (N := some 57) (v := ?_) (a' := ?_) (bs 533 20) rfl rfl (any_of HT_.out (by kernel_rfl)) (fun _ _ _ h => h) (Or.inl ⟨by rfl, ?_⟩) ?_ ?_; rotate_left; intro w'; go_simp; with_reducible rfl; rotate_left; simp only [Act.put, q1, q2, q3, i64_w, i32_w]; rfl
               refine pure_ (i := 11) (N := some 59) (v := ?_) (a' := ?_) (bs 2581 20) rfl rfl (any_of HT_.out (by kernel_rfl)) (fun _ _ _ h => h) (Or.inl ⟨by rfl, ?_⟩) ?_ ?_; rotate_left; intro w'; go_simp; with_reducible rfl; rotate_left; simp only [Act.put, q1, q2, q3, i64_w, i32_w]; rfl
               refine take_ (i := 1) (N := some 49) (v := ?_) (a' := ?_) (bs 2583 20) rfl rfl (take_ofW HT_.out HW_.out (by kernel_rfl)) (fun _ _ _ h => h) (Or.inl ⟨by rfl, ?_⟩) hHeld ?_ ?_; rotate_left; rintro w' ⟨s0, s1, s2, s3, s4, s5, s6, s7⟩; go_simp; with_reducible rfl; rotate_left; simp only [Act.put, q1, q2, q3, i64_w, i32_w]; rfl
               refine take_ (i := 3) (N := some 51) (v := ?_) (a' := ?_) (bs 2591 20) rfl rfl (take_ofW HT_.out HW_.out (by kernel_rfl)) (fun _ _ _ h => h) (Or.inl ⟨by rfl, ?_⟩) hHeld ?_ ?_; rotate_left; rintro w' ⟨s0, s1, s2, s3, s4, s5, s6, s7⟩; go_simp; with_reducible rfl; rotate_left; simp only [Act.put, q1, q2, q3, i64_w, i32_w]; rfl
               refine pure_ (i := 5) (N := some 53) (v := ?_) (a' := ?_) (bs 2623 20) rfl rfl (any_of HT_.out (by kernel_rfl)) (fun _ _ _ h => h) (Or.inl ⟨by rfl, ?_⟩) ?_ ?_; rotate_left; intro w'; go_simp; with_reducible rfl; rotate_left; simp only [Act.put, q1, q2, q3, i64_w, i32_w]; rfl
               refine pure_ (i := 6) (N := some 54) (v := ?_) (a' := ?_) (bs 2687 20) rfl rfl (any_of HT_.out (by kernel_rfl)) (fun _ _ _ h => h) (Or.inl ⟨by rfl, ?_⟩) ?_ ?_; rotate_left; intro w'; go_simp; with_reducible rfl; rotate_left; simp only [Act.put, q1, q2, q3, i64_w, i32_w]; rfl
               refine take_ (i := 7) (N := some 55) (v := ?_) (a' := ?_) (bs 2815 20) rfl rfl (take_ofW HT_.out HW_.out (by kernel_rfl)) (fun _ _ _ h => h) (Or.inl ⟨by rfl, ?_⟩) hHeld ?_ ?_; rotate_left; rintro w' ⟨s0, s1, s2, s3, s4, s5, s6, s7⟩; go_simp; with_reducible rfl; rotate_left; simp only [Act.put, q1, q2, q3, i64_w, i32_w]; rfl
               refine take_ (i := 10) (N := some 58) (v := ?_) (a' := ?_) (bs 3839 20) rfl rfl (take_ofW HT_.out HW_.out (by kernel_rfl)) (fun _ _ _ h => h) (Or.inl ⟨by rfl, ?_⟩) hHeld ?_ ?_; rotate_left; rintro w' ⟨s0, s1, s2, s3, s4, s5, s6, s7⟩; go_simp; with_reducible rfl; rotate_left; simp only [Act.put, q1, q2, q3, i64_w, i32_w]; rfl
               refine pure_ (i := 12) (N := some 60) (v := ?_) (a' := ?_) (bs 7935 20) rfl rfl (any_of HT_.out (by kernel_rfl)) (fun _ _ _ h => h) (Or.inl ⟨by rfl, ?_⟩) ?_ ?_; rotate_left; intro w'; go_simp; with_reducible rfl; rotate_left; simp only [Act.put, q1, q2, q3, i64_w, i32_w]; rfl
               refine pure_ (i := 13) (N := some 61) (v := ?_) (a' := ?_) (bs 16127 20) rfl rfl (any_of HT_.out (by kernel_rfl)) (fun _ _ _ h => h) (Or.inl ⟨by rfl, ?_⟩) ?_ ?_; rotate_left; intro w'; go_simp; with_reducible rfl; rotate_left; simp only [Act.put, q1, q2, q3, i64_w, i32_w]; rfl
               refine take_ (i := 14) (N := some 62) (v := ?_) (a' := ?_) (bs 32511 20) rfl rfl (take_ofW HT_.out HW_.out (by kernel_rfl)) (fun _ _ _ h => h) (Or.inl ⟨by rfl, ?_⟩) hHeld ?_ ?_; rotate_left; rintro w' ⟨s0, s1, s2, s3, s4, s5, s6, s7⟩; go_simp; with_reducible rfl; rotate_left; simp only [Act.put, q1, q2, q3, i64_w, i32_w]; rfl
               refine one_ (i := 8) (N := some 56) (bs 32767 20) rfl rfl (one_of HT_.out (by kernel_rfl)) (by decide) (fun K hK => ?_)
               refine goes_ Try.func50 (by kernel_rfl) rfl #[.slice A237_0 ((rd_T65 l0_1 x9_2).f0).length c237_0] (by rfl) rfl rfl (by (try simp only [List.map_toArray, List.map_cons, List.map_nil]); rfl) ?_
               with_reducible refine (spec_l01Own.calls _ _ ((rd_T65 l0_1 x9_2).f0) t238 _ ?side1 ?side2 A43.out).mono ?_
               (case side1 => repeat (exact (by repeat ((with_reducible exact HR237_0.out)))))
               (case side2 => exact HC237_0.out)
               rintro e w50 ⟨v239, rfl, ho0, hb⟩
               have HS4_ := (hb.cell (World.block_lt_of_cell? _ _ (hHeld.2.2.2.2.1))).trans (hHeld.2.2.2.2.1)
               have HS5_ := (hb.cell (World.block_lt_of_cell? _ _ (hHeld.2.2.2.2.2.1))).trans (hHeld.2.2.2.2.2.1)
               have HS6_ := (hb.cell (World.block_lt_of_cell? _ _ (hHeld.2.2.2.2.2.2.1))).trans (hHeld.2.2.2.2.2.2.1)
               have HS7_ := (hb.cell (World.block_lt_of_cell? _ _ (hHeld.2.2.2.2.2.2.2))).trans (hHeld.2.2.2.2.2.2.2)
               refine ⟨_, rfl, ?_⟩
               have n0_ := am (Kd.V_elder' (by (with_reducible repeat (apply Kd.V_drew)); exact HO_224001.out) (Kd.R_base ho0) hb)
               have n1_ := am (Kd.S_elder' (by (with_reducible repeat (apply Kd.S_drew)); exact HO_227001.out) (Kd.R_base ho0) hb)
               have n2_ := am (Kd.V_elder' (by (with_reducible repeat (apply Kd.V_drew)); exact HL237_0.out) (Kd.R_base ho0) hb)
               have n3_ := am (Kd.V_elder' (by (with_reducible repeat (apply Kd.V_drew)); exact HL241_0.out) (Kd.R_base ho0) hb)
               have n4_ := am (Kd.R_lower (Kd.R_newM (M := fun k_ => (w.heap.size ≤ k_)) ho0 (below_size (by repeat ((with_reducible exact HB.out)))) (fun k_ h_ => h_)) (below_size (by repeat ((with_reducible exact HB.out)))))
               have n5_ := am (blk_below (g := gb223) (o := .cells #[.int .i64 a0_0, .slice (some ad237) l0_1.length c0_1] 28 (0, 0)) (by exact BK223.out) hb)
               have n6_ := am (blk_below (g := gb224) (o := .cells #[.int .i64 a1_0, .slice A1_1 l1_1.length c1_1] 28 (0, 0)) (by exact BK224.out) hb)
               have n7_ := am (blk_below (g := gb225) (o := .cells #[.int .i64 0, .slice none 0 0] 28 (0, 0)) (by exact BK225.out) hb)
               have n8_ := am (blk_below (g := gb226) (o := .cells #[.int .i64 t233, u227001] 28 (0, 0)) (by exact BK226.out) hb)
               have n9_ := am (Kd.C_below (by repeat ((with_reducible exact HR237_0.out))) hb)
               have n10_ := am (Kd.C_below (by repeat ((with_reducible exact HR241_0.out))) hb)
               have n11_ := am (below_step (by repeat ((with_reducible exact HB.out))) hb)
               clear HO_224001
               clear HO_227001
               clear HL237_0
               clear HL241_0
               clear BK223
               clear BK224
               clear BK225
               clear BK226
               clear HR237_0
               clear HR241_0
               clear HB
               have HO_224001 := n0_
               have HO_227001 := n1_
               have HL237_0 := n2_
               have HL241_0 := n3_
               have HO240 := n4_
               have BK223 := n5_
               have BK224 := n6_
               have BK225 := n7_
               have BK226 := n8_
               have HR237_0 := n9_
               have HR241_0 := n10_
               have HB := n11_
               clear n0_ n1_ n2_ n3_ n4_ n5_ n6_ n7_ n8_ n9_ n10_ n11_
               (try clear hb)
               (try clear hb2)
               (try clear hk)
               (try clear hi)
               (try clear ho0)
               obtain ⟨Ao51, co51, eo51⟩ := Kd.R_slice HO240.out
               (subst eo51)
               refine hK.out _ _ ⟨(blk_cell BK226.out 0).trans rfl, (blk_cell BK226.out 1).trans rfl, (blk_cell BK223.out 0).trans rfl, (blk_cell BK223.out 1).trans rfl, HS4_, HS5_, HS6_, HS7_⟩ (fun hHeld => ?_)
               clear hK K
               refine norm_ (a' := ?_) ?_ ?_; rotate_left; show Act.put _ (some 56) _ = _; simp only [Act.put, q1, q2, q3, i64_w, i32_w]; rfl
               refine pure_ (i := 15) (N := some 63) (v := ?_) (a' := ?_) (bs 65535 20) rfl rfl (any_of HT_.out (by kernel_rfl)) (fun _ _ _ h => h) (Or.inl ⟨by rfl, ?_⟩) ?_ ?_; rotate_left; intro w'; go_simp; with_reducible rfl; rotate_left; simp only [Act.put, q1, q2, q3, i64_w, i32_w]; rfl
               refine one_ (i := 16) (N := some 64) (bs 131071 20) rfl rfl (one_of HT_.out (by kernel_rfl)) (by decide) (fun K hK => ?_)
               refine value_ (w1 := ?_) (v := ?_) (by rfl) rfl ?_ ?_
               rotate_left 2
               · go_simp
                 constructor
                 · rfl
                 · rfl
               refine hK.out _ _ ⟨(blk_cell (blk_alloc BK226.out _) 0).trans rfl, (blk_cell (blk_alloc BK226.out _) 1).trans rfl, (blk_cell (blk_alloc BK223.out _) 0).trans rfl, (blk_cell (blk_alloc BK223.out _) 1).trans rfl, (World.cell?_alloc_lt _ _ _ (World.block_lt_of_cell? _ _ (hHeld.2.2.2.2.1))).trans (hHeld.2.2.2.2.1), (World.cell?_alloc_lt _ _ _ (World.block_lt_of_cell? _ _ (hHeld.2.2.2.2.2.1))).trans (hHeld.2.2.2.2.2.1), (World.cell?_alloc_lt _ _ _ (World.block_lt_of_cell? _ _ (hHeld.2.2.2.2.2.2.1))).trans (hHeld.2.2.2.2.2.2.1), (World.cell?_alloc_lt _ _ _ (World.block_lt_of_cell? _ _ (hHeld.2.2.2.2.2.2.2))).trans (hHeld.2.2.2.2.2.2.2)⟩ (fun hHeld => ?_)
               clear hK K
               refine norm_ (a' := ?_) ?_ ?_; rotate_left; show Act.put _ (some 64) _ = _; simp only [Act.put, q1, q2, q3, i64_w, i32_w]; rfl
               refine last_ (i := 17) (N := some 65) (bs 262143 20) rfl rfl (one_of HT_.out (by kernel_rfl)) (by decide) (fun K hK => ?_)
               refine Kd.S_append_step k65 (w0 := w) w.heap.size (by rfl) (.tmp 49) (.tmp 64) 26 65 (.agg #[(.slice none 0 0), (.int .i64 0)]) 32 rfl Try.underlying26 info65 rfl (by decide) (by omega) u227001 x227001_2 (⟨t238, (rd_T65 l0_1 x9_2).f1⟩ : S65) [.slice Ao51 t238.length co51, .int .i64 ((rd_T65 l0_1 x9_2).f1)] (fun k_ => (w.heap.size ≤ k_)) (fun k_ => some k_ = (.slice Ao51 t238.length co51 : Value).ownBlock) rfl rfl ?aP (fun k_ hk_ => ((Kd.R_mono (ok' := fun k_ => ((fun k_ => (w.heap.size ≤ k_))) k_ ∧ some k_ ≠ (u227001 : Value).ownBlock) (Kd.R_apart' (HO240.out) (Kd.S_typed HO_227001.out) (by decide)) (fun k_ hk => ⟨hk.1.1, hk.2⟩))).1 k_ hk_.symm) ?aF ?aO ?aB ?aS ?aL ?_
               (case aP => exact k65_mkM _ _ _ (⟨t238, (rd_T65 l0_1 x9_2).f1⟩ : S65) (Kd.R_mono (Kd.R_tight rfl (Kd.R_mono (ok' := fun k_ => ((fun k_ => (w.heap.size ≤ k_))) k_ ∧ some k_ ≠ (u227001 : Value).ownBlock) (Kd.R_apart' (HO240.out) (Kd.S_typed HO_227001.out) (by decide)) (fun k_ hk => ⟨hk.1.1, hk.2⟩))) (fun _ h_ => h_)))
               (case aB => exact (by repeat ((with_reducible exact HB.out))))
               (case aF => exact (fun k_ hk => (Nat.le_trans (below_size (by repeat ((with_reducible exact HB.out)))) hk)))
               (case aO => exact (by (with_reducible repeat (apply Kd.S_drew)); exact Kd.S_mono HO_227001.out (fun k_ hk => ⟨hk.1, fun e_ => hk.2 e_⟩)))
               (case aS => exact (below_size (by repeat ((with_reducible exact HB.out)))))
               (case aL => have := LMc44.out; omega)
               intro v243 w52 ho hb hg hat
               rw [← Ny242.out] at ho
               have n0_ := am (Kd.V_afterv (ok := (fun k_ => (P0_1_ k_ ∨ w.heap.size ≤ k_) ∧ some k_ ≠ (.slice Ao51 t238.length co51 : Value).ownBlock ∧ k_ ≠ gb223 ∧ k_ ≠ gb224 ∧ k_ ≠ gb225 ∧ k_ ≠ gb226)) (by (with_reducible repeat (apply Kd.V_drew)); exact Kd.V_mono HO_224001.out (fun _ hk => ⟨⟨hk.1.1, ⟨hk.2, ⟨hk.1.2.2.1, ⟨hk.1.2.2.2.1, ⟨hk.1.2.2.2.2.1, hk.1.2.2.2.2.2⟩⟩⟩⟩⟩, hk.1.2.1⟩)) hg hat)
               have n1_ := am (blk_grown (g := gb223) (o := .cells #[.int .i64 a0_0, .slice (some ad237) l0_1.length c0_1] 28 (0, 0)) (by exact BK223.out) hg (Kd.S_ne HO_227001.out BK223.out (by decide)))
               have n2_ := am (blk_grown (g := gb224) (o := .cells #[.int .i64 a1_0, .slice A1_1 l1_1.length c1_1] 28 (0, 0)) (by exact BK224.out) hg (Kd.S_ne HO_227001.out BK224.out (by decide)))
               have n3_ := am (blk_grown (g := gb225) (o := .cells #[.int .i64 0, .slice none 0 0] 28 (0, 0)) (by exact BK225.out) hg (Kd.S_ne HO_227001.out BK225.out (by decide)))
               have n4_ := am (blk_grown (g := gb226) (o := .cells #[.int .i64 t233, u227001] 28 (0, 0)) (by exact BK226.out) hg (Kd.S_ne HO_227001.out BK226.out (by decide)))
               have n5_ := am (Kd.V_afterv (ok := (fun k_ => (P0_1_ k_ ∨ w.heap.size ≤ k_) ∧ some k_ ≠ (.slice Ao51 t238.length co51 : Value).ownBlock ∧ k_ ≠ gb223 ∧ k_ ≠ gb224 ∧ k_ ≠ gb225 ∧ k_ ≠ gb226)) (by (with_reducible repeat (apply Kd.V_drew)); exact Kd.V_mono HL237_0.out (fun _ hk => ⟨⟨hk.1.1, ⟨hk.2, ⟨hk.1.2.2.1, ⟨hk.1.2.2.2.1, ⟨hk.1.2.2.2.2.1, hk.1.2.2.2.2.2⟩⟩⟩⟩⟩, hk.1.2.1⟩)) hg hat)
               have n6_ := am (Kd.V_afterv (ok := (fun k_ => (P0_1_ k_ ∨ w.heap.size ≤ k_) ∧ some k_ ≠ (.slice Ao51 t238.length co51 : Value).ownBlock ∧ k_ ≠ gb223 ∧ k_ ≠ gb224 ∧ k_ ≠ gb225 ∧ k_ ≠ gb226)) (by (with_reducible repeat (apply Kd.V_drew)); exact Kd.V_mono HL241_0.out (fun _ hk => ⟨⟨hk.1.1, ⟨hk.2, ⟨hk.1.2.2.1, ⟨hk.1.2.2.2.1, ⟨hk.1.2.2.2.2.1, hk.1.2.2.2.2.2⟩⟩⟩⟩⟩, hk.1.2.1⟩)) hg hat)
               have n7_ := am (hb)
               have n8_ := am (ho)
               clear HO_224001
               clear BK223
               clear BK224
               clear BK225
               clear BK226
               clear HL237_0
               clear HL241_0
               clear HB
               clear HO_227001
               clear HO240
               have HO_224001 := n0_
               have BK223 := n1_
               have BK224 := n2_
               have BK225 := n3_
               have BK226 := n4_
               have HL237_0 := n5_
               have HL241_0 := n6_
               have HB := n7_
               have HO244 := n8_
               clear n0_ n1_ n2_ n3_ n4_ n5_ n6_ n7_ n8_
               clear ho hb hg hat
               obtain ⟨Ao53, co53, eo53⟩ := Kd.S_slice HO244.out
               (subst eo53)
               refine hK.out _ _ ?_
               clear hK K
               refine norm_ (a' := ?_) ?_ ?_; rotate_left; show Act.put _ (some 65) _ = _; simp only [Act.put, q1, q2, q3, i64_w, i32_w]; rfl
               refine pure_ (i := 18) (N := some 66) (v := ?_) (a' := ?_) (bs 524287 20) rfl rfl (any_of HT_.out (by kernel_rfl)) (fun _ _ _ h => h) (Or.inl ⟨by rfl, ?_⟩) ?_ ?_; rotate_left; intro w'; go_simp; with_reducible rfl; rotate_left; simp only [Act.put, q1, q2, q3, i64_w, i32_w]; rfl
               refine last_ (i := 19) (N := none) (bs 1048575 20) rfl rfl (one_of HT_.out (by kernel_rfl)) (by decide) (fun K hK => ?_)
               have hs54 : w52.cell? ⟨gb226, 1, none⟩ = some (u227001) := (blk_cell BK226.out 1).trans rfl
               have hfs54 := blk_frozen BK226.out 1
               have hns54_0 := NB223_226.out
               have hns54_1 := NB224_226.out
               have hns54_2 := NB225_226.out
               have hms54_0 := NB226_223.out
               have hms54_1 := NB226_224.out
               have hms54_2 := NB226_225.out
               refine skip_ (w1 := ?_) (by rfl) rfl ?_ ?_
               rotate_left
               · go_simp
                 rfl
               refine hK.out _ _ ?_
               clear hK K
               refine done_ (done_of HT_.out (by kernel_rfl)) ?_
               try go_wp2
               go_roundg k2
               case measure => have := HK1.out; have := HK2.out; omega
               case rel => exact ⟨(wrap64 (x9_2 + 1)), (y242), (.slice Ao53 y242.length co53), (by rfl), H', ⟨by have := HK1.out; have := HK2.out; omega⟩, ⟨by (with_reducible repeat (apply Kd.V_drew)); exact Kd.V_mono (Kd.V_far (p := ⟨gb226, 1, none⟩) (Kd.V_mono HO_224001.out (fun k_ hk => (⟨hk, hk.1.2.2.2.2.2⟩ : _ ∧ k_ ≠ gb226))) (fun _ hk => hk.2) (.slice Ao53 y242.length co53)) (fun _ hk => ⟨hk.1.1.1, ⟨hk.1.2, ⟨hk.1.1.2.2.1, ⟨hk.1.1.2.2.2.1, ⟨hk.1.1.2.2.2.2.1, hk.1.1.2.2.2.2.2⟩⟩⟩⟩⟩)⟩, ⟨by (with_reducible repeat (apply Kd.S_drew)); exact Kd.S_mono (Kd.S_far (p := ⟨gb226, 1, none⟩) (Kd.S_types HO244.out BK226.out (by decide)) (fun _ hk => hk.2) (.slice Ao53 y242.length co53)) (fun _ hk => hk.1)⟩, ⟨by (with_reducible repeat (refine blk_drew ?_)); refine blk_far ?_ NB223_226.out _; (with_reducible repeat (refine blk_drew ?_)); exact BK223.out⟩, ⟨by (with_reducible repeat (refine blk_drew ?_)); refine blk_far ?_ NB224_226.out _; (with_reducible repeat (refine blk_drew ?_)); exact BK224.out⟩, ⟨by (with_reducible repeat (refine blk_drew ?_)); refine blk_far ?_ NB225_226.out _; (with_reducible repeat (refine blk_drew ?_)); exact BK225.out⟩, ⟨by (with_reducible repeat (refine blk_drew ?_)); refine blk_put (cs := #[.int .i64 t233, u227001]) ?_ 1 _ rfl; (with_reducible repeat (refine blk_drew ?_)); exact BK226.out⟩, ⟨by repeat ((with_reducible first | exact HB.out | refine below_set ?_ GE226.out))⟩⟩
             · rw [if_neg c44] at H
               exact absurd H (by simp)
           · rw [if_neg c42] at H
             exact absurd H (by simp)
         · rw [if_neg c41] at H
           have c41b0 : decide (x9_2 < (l0_1.length : Int)) = false := decide_eq_false c41
           clear c41
           simp only [Option.some.injEq, Prod.mk.injEq] at H
           obtain ⟨rfl, rfl⟩ := H
           have hnb55 := NB223_224.out
           have hnc55 := NB224_223.out
           have hnb56 := NB223_225.out
           have hnc56 := NB225_223.out
           have hnb57 := NB223_226.out
           have hnc57 := NB226_223.out
           have hcz58_0 : wr.cell? ⟨gb223, 0, none⟩ = some (.int .i64 a0_0) := (blk_cell BK223.out 0).trans rfl
           have hcz58_1 : wr.cell? ⟨gb223, 1, none⟩ = some (.slice A0_1 l0_1.length c0_1) := (blk_cell BK223.out 1).trans rfl
           have hfz58_0 := blk_frozen BK223.out 0
           have hfz58_1 := blk_frozen BK223.out 1
           have hnb59 := NB226_224.out
           have hnc59 := NB224_226.out
           have hnb60 := NB226_225.out
           have hnc60 := NB225_226.out
           have hcz61_0 : wr.cell? ⟨gb226, 0, none⟩ = some (.int .i64 t233) := (blk_cell BK226.out 0).trans rfl
           have hcz61_1 : wr.cell? ⟨gb226, 1, none⟩ = some (u227001) := (blk_cell BK226.out 1).trans rfl
           have hfz61_0 := blk_frozen BK226.out 0
           have hfz61_1 := blk_frozen BK226.out 1
           have hnb62 := NB225_224.out
           have hnc62 := NB224_225.out
           have hcz63_0 : wr.cell? ⟨gb225, 0, none⟩ = some (.int .i64 0) := (blk_cell BK225.out 0).trans rfl
           have hcz63_1 : wr.cell? ⟨gb225, 1, none⟩ = some (.slice none 0 0) := (blk_cell BK225.out 1).trans rfl
           have hfz63_0 := blk_frozen BK225.out 0
           have hfz63_1 := blk_frozen BK225.out 1
           obtain ⟨Ao64, co64, eo64⟩ := Kd.S_slice HO_227001.out
           subst eo64
           go_wp2
           refine bodyPost_ret (results_cell_row rfl _ _ gb225 28 #[.int .i64 t233, .slice Ao64 x227001_2.length co64] (0, 0) _ rfl (by (with_reducible repeat (refine blk_drew ?_)); refine blk_put (cs := #[.int .i64 t233, .slice none 0 0]) ?_ 1 _ rfl; (with_reducible repeat (refine blk_drew ?_)); refine blk_put (cs := #[.int .i64 0, .slice none 0 0]) ?_ 0 _ rfl; (with_reducible repeat (refine blk_drew ?_)); exact BK225.out) Try.underlying28 rfl (by kernel_rfl)) rfl ?_
           exact ⟨_, by rfl, Kd.V_mono (Kd.S_V (by (with_reducible repeat (apply Kd.S_drew)); exact Kd.S_mono (Kd.S_far (p := ⟨gb225, 1, none⟩) (Kd.S_far (p := ⟨gb225, 0, none⟩) (Kd.S_types HO_227001.out BK225.out (by decide)) (fun _ hk => hk.2) (.int .i64 t233)) (fun _ hk => hk.2) (.slice Ao64 x227001_2.length co64)) (fun _ hk => hk.1))) (fun k_ hk => by exact (.inr (hk))), by repeat ((with_reducible first | exact HB.out | refine below_set ?_ GE225.out))⟩
     · rw [if_neg c28] at H
       have c28b0 : ((l1_1.length : Int) == 0) = false := beq_eq_false_iff_ne.mpr c28
       have c28b1 : ((l1_1.length : Int) != 0) = true := bne_iff_ne.mpr c28
       have c28b2 : ¬ (l1_1 = []) := fun h_ => c28 (by rw [h_]; rfl)
       simp only [Option.some.injEq, Prod.mk.injEq] at H
       obtain ⟨rfl, rfl⟩ := H
       have hnb65 := NB224_223.out
       have hnc65 := NB223_224.out
       have hnb66 := NB224_225.out
       have hnc66 := NB225_224.out
       have hnb67 := NB224_226.out
       have hnc67 := NB226_224.out
       have hcz68_0 : wr.cell? ⟨gb224, 0, none⟩ = some (.int .i64 a1_0) := (blk_cell BK224.out 0).trans rfl
       have hcz68_1 : wr.cell? ⟨gb224, 1, none⟩ = some (.slice A1_1 l1_1.length c1_1) := (blk_cell BK224.out 1).trans rfl
       have hfz68_0 := blk_frozen BK224.out 0
       have hfz68_1 := blk_frozen BK224.out 1
       have hnb69 := NB226_223.out
       have hnc69 := NB223_226.out
       have hnb70 := NB226_225.out
       have hnc70 := NB225_226.out
       have hcz71_0 : wr.cell? ⟨gb226, 0, none⟩ = some (.int .i64 x227000_1) := (blk_cell BK226.out 0).trans rfl
       have hcz71_1 : wr.cell? ⟨gb226, 1, none⟩ = some (u227001) := (blk_cell BK226.out 1).trans rfl
       have hfz71_0 := blk_frozen BK226.out 0
       have hfz71_1 := blk_frozen BK226.out 1
       have hnb72 := NB225_223.out
       have hnc72 := NB223_225.out
       have hcz73_0 : wr.cell? ⟨gb225, 0, none⟩ = some (.int .i64 0) := (blk_cell BK225.out 0).trans rfl
       have hcz73_1 : wr.cell? ⟨gb225, 1, none⟩ = some (.slice none 0 0) := (blk_cell BK225.out 1).trans rfl
       have hfz73_0 := blk_frozen BK225.out 0
       have hfz73_1 := blk_frozen BK225.out 1
       obtain ⟨Ao74, co74, eo74⟩ := Kd.V_slice HO_227001.out
       subst eo74
       go_wp2
       refine bodyPost_ret (results_cell_row rfl _ _ gb225 28 #[.int .i64 x227000_1, .slice Ao74 x227001_1.length co74] (0, 0) _ rfl (by (with_reducible repeat (refine blk_drew ?_)); refine blk_put (cs := #[.int .i64 x227000_1, .slice none 0 0]) ?_ 1 _ rfl; (with_reducible repeat (refine blk_drew ?_)); refine blk_put (cs := #[.int .i64 0, .slice none 0 0]) ?_ 0 _ rfl; (with_reducible repeat (refine blk_drew ?_)); exact BK225.out) Try.underlying28 rfl (by kernel_rfl)) rfl ?_
       exact ⟨_, by rfl, by (with_reducible repeat (apply Kd.V_drew)); exact Kd.V_mono (Kd.V_far (p := ⟨gb225, 1, none⟩) (Kd.V_far (p := ⟨gb225, 0, none⟩) (Kd.V_mono HO_227001.out (fun k_ hk => (⟨hk, hk.2.2.2.1⟩ : _ ∧ k_ ≠ gb225))) (fun _ hk => hk.2) (.int .i64 x227000_1)) (fun _ hk => hk.2) (.slice Ao74 x227001_1.length co74)) (fun _ hk => hk.1.1), by repeat ((with_reducible first | exact HB.out | refine below_set ?_ GE225.out))⟩
end Go.Proofs.Ytgcgeoglhebonaa.P
end
section
namespace Go.Proofs.Ytgcgeoglhebonaa.P
open Go.RowKit Go.Maps Go.Proofs.YtgcgeoglhebonaaW.PrintWords Go.Proofs.YtgcgeoglhebonaaW.PrintLast Go.Proofs.YtgcgeoglhebonaaW.PrintMore
set_option linter.unusedVariables false
set_option linter.unusedSimpArgs false
theorem cloneInts_any (A : Option Addr) (c : Nat) (l : List Int) (w : World) (hr : Kd.C (Kd.int .i64) w A l.length l) (h0 : 0 < l.length) (hl : l.length ≤ 1000000000000) :
 Calls Try.prog 82 #[.slice A l.length c] w fun e w' => ∃ v, e = .returned v ∧ Kd.R (Kd.int .i64) 2 w' w.heap.size (fun _ => True) v l ∧ Below w.heap.size w w' := by
 obtain ⟨ad, rfl, _⟩ := hr.2.2 h0
 have HR := am hr
 have HB := am (Below.refl w.heap.size w)
 have hq : ∀ (w : World) (a : Addr) (n c : Nat), (binOp .eql 50 (.slice (some a) n c) (.slice none 0 0)).run Try.prog w = .ok (.bool false) w := fun w a n c => Go.Lib.run_eql_slice_nil w _ _ (some a) n c 0 0 Try.underlying50
 clear hr
 go_enter Try.func82, Try.ntmps82
 go_wp2_with (first
  | ((with_reducible refine gate_dst (N := 5) rfl ?_); go_must (refine Kd.R_lit (Kd.int .i64) _ 2 ?hg (N := 5) ?hd (xs := ([] : List Int)) (inner := []) (ok := fun _ => True) (okp := fun _ => True) ?hr ?hp (fun _ hk => hk) trivial (Below.refl _ _) (Nat.le_refl _) (by simp) ?_); (case hd => rfl); (case hg => rfl); (case hr => (go_simp; done)); (case hp => exact (Reps.none _ _)); intro v1 w1 ho hb hg_ hnew_; have HO := am (Kd.R_lower ho (below_size HB.out)); have HB1 := am (below_step HB.out hb); clear ho hb hg_ hnew_)
  | ((with_reducible refine gate_builtin (b := .append) (xs := #[.tmp 5, .tmp 6]) rfl ?_); at_builtin; go_must (refine Kd.R_append_rows (Kd.int .i64) (w0 := w) w.heap.size rfl (.tmp 5) (.tmp 6) 50 2 (.int .i64 0) 8 rfl Try.underlying50 info2 rfl (by decide) (by omega) v1 [] l _ _ _ (fun _ => True) (fun _ => False) rfl rfl ?aO ?aR (fun _ _ h => h) (fun _ h => h.elim) ?aF ?aB ?aS ?aL ?_); (case aR => exact (Kd.C_below HR.out HB1.out)); (case aB => exact HB1.out); (case aF => exact (fun _ _ => trivial)); (case aO => exact HO.out); (case aS => exact HB1.out.size); (case aL => simp; omega); intro v2 w2 ho hb hg hat; have HO2 := am ho; have HB2 := am hb; clear ho hb hg hat)
  | go_in)
 go_ret
 exact ⟨_, by rfl, by have := HO2.out; rwa [List.nil_append] at this, HB2.out⟩
end Go.Proofs.Ytgcgeoglhebonaa.P
end
