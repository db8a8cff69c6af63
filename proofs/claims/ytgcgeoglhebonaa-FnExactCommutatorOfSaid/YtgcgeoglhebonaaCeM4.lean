/- Part of the claim. -/
import Derived.Test.YtgcgeoglhebonaaCeM3
import Derived.Shelf.SlSortCmp.WholeK
set_option maxRecDepth 100000
set_option maxHeartbeats 8000000
section
namespace Go.Proofs.Ytgcgeoglhebonaa.P
open Go.RowKit Go.Proofs.YtgcgeoglhebonaaW.PrintWords Go.Proofs.YtgcgeoglhebonaaW.PrintLast Go.Proofs.YtgcgeoglhebonaaW.PrintMore
attribute [local go_sem] max2_int min2_int max_two min_two max_three min_three max_four min_four   -- for this text's walks alone
set_option linter.unusedVariables false
set_option linter.unusedSimpArgs false
def spec_CommutatorOf.j0 : Nat → Bool → Int → List (S65) → Int → List (S65) → Int → List (S65) → Option (Int × (List (S65)) × Int)
 | 0, _, _, _, _, _, _, _ => none
 | k + 1, x37, x246000, x246001, x255000, x255001, x261000, x261001 => if x37 = true then (some (0, ([] : List (S65)), 3)) else ((spec_l03Plus.f k x255000 x255001 x261000 x261001 (wrap64 (x246000 - 1))).bind fun bt261 => ((spec_l03Told.f bt261.1 bt261.2).bind fun bt265 => (some (bt265.1, bt265.2.1, bt265.2.2))))
def spec_CommutatorOf.f (k : Nat) (a0_0 : Int) (l0_1 : List (S65)) (a1_0 : Int) (l1_1 : List (S65)) : Option (Int × (List (S65)) × Int) := (spec_l03Like.f k a0_0 l0_1 a1_0 l1_1).bind fun t248 => (if t248 = 0 then ((spec_l03Join.f k a0_0 l0_1 a1_0 l1_1).bind fun bt249 => ((spec_l03Join.f k a1_0 l1_1 a0_0 l0_1).bind fun bt255 => (if bt249.2.2 = true then (spec_CommutatorOf.j0 k (!bt255.2.2) a0_0 l0_1 bt249.1 bt249.2.1 bt255.1 bt255.2.1) else (spec_CommutatorOf.j0 k true a0_0 l0_1 bt249.1 bt249.2.1 bt255.1 bt255.2.1)))) else (some (0, ([] : List (S65)), t248)))
theorem spec_CommutatorOf.calls (k : Nat) (a0_0 : Int) (A0_1 : Option Addr) (c0_1 : Nat) (l0_1 : List (S65)) (a1_0 : Int) (A1_1 : Option Addr) (c1_1 : Nat) (l1_1 : List (S65)) (r1 : Int) (r2 : List (S65)) (r3 : Int) (w : World) (hr0_1 : Kd.C k65 w A0_1 l0_1.length l0_1) (hc0_1 : l0_1.length ≤ c0_1) (hr1_1 : Kd.C k65 w A1_1 l1_1.length l1_1) (hc1_1 : l1_1.length ≤ c1_1) (h : spec_CommutatorOf.f k a0_0 l0_1 a1_0 l1_1 = some (r1, r2, r3)) :
 Calls Try.prog 7 #[.agg #[.int .i64 a0_0, .slice A0_1 l0_1.length c0_1], .agg #[.int .i64 a1_0, .slice A1_1 l1_1.length c1_1]] w fun e w' => ∃ v1_ : Value, e = .returned (.tuple #[.agg #[.int .i64 r1, v1_], .int .i64 r3]) ∧ Kd.V k65 65 w' w.heap.size (fun k_ => (w.heap.size ≤ k_)) v1_ r2 ∧ Below w.heap.size w w' := by
 have hu28 := Try.underlying28
 have HR0_1 := am hr0_1
 have HC0_1 := am hc0_1
 clear hr0_1 hc0_1
 have HR1_1 := am hr1_1
 have HC1_1 := am hc1_1
 clear hr1_1 hc1_1
 have HB := am (Below.refl w.heap.size w)
 have H : ((spec_l03Like.f k a0_0 l0_1 a1_0 l1_1).bind fun t248 => (if t248 = 0 then ((spec_l03Join.f k a0_0 l0_1 a1_0 l1_1).bind fun bt249 => ((spec_l03Join.f k a1_0 l1_1 a0_0 l0_1).bind fun bt255 => (if bt249.2.2 = true then (spec_CommutatorOf.j0 k (!bt255.2.2) a0_0 l0_1 bt249.1 bt249.2.1 bt255.1 bt255.2.1) else (spec_CommutatorOf.j0 k true a0_0 l0_1 bt249.1 bt249.2.1 bt255.1 bt255.2.1)))) else (some (0, ([] : List (S65)), t248)))) = some (r1, r2, r3) := h
 clear h
 replace H := Option.bind_eq_some_iff.mp H
 obtain ⟨t248, A30, H⟩ := H
 replace H : (if t248 = 0 then ((spec_l03Join.f k a0_0 l0_1 a1_0 l1_1).bind fun bt249 => ((spec_l03Join.f k a1_0 l1_1 a0_0 l0_1).bind fun bt255 => (if bt249.2.2 = true then (spec_CommutatorOf.j0 k (!bt255.2.2) a0_0 l0_1 bt249.1 bt249.2.1 bt255.1 bt255.2.1) else (spec_CommutatorOf.j0 k true a0_0 l0_1 bt249.1 bt249.2.1 bt255.1 bt255.2.1)))) else (some (0, ([] : List (S65)), t248))) = some (r1, r2, r3) := H
 have A3 := am A30
 clear A30
 by_cases c4 : t248 = 0
 · rw [if_pos c4] at H
   have c4b0 : (t248 == 0) = true := beq_iff_eq.mpr c4
   have c4b1 : (t248 != 0) = false := bne_eq_false_iff_eq.mpr c4
   clear c4
   replace H := Option.bind_eq_some_iff.mp H
   obtain ⟨⟨t249, t250, t253⟩, A50, H⟩ := H
   replace H : ((spec_l03Join.f k a1_0 l1_1 a0_0 l0_1).bind fun bt255 => (if t253 = true then (spec_CommutatorOf.j0 k (!bt255.2.2) a0_0 l0_1 t249 t250 bt255.1 bt255.2.1) else (spec_CommutatorOf.j0 k true a0_0 l0_1 t249 t250 bt255.1 bt255.2.1))) = some (r1, r2, r3) := H
   have A5 := am A50
   clear A50
   replace H := Option.bind_eq_some_iff.mp H
   obtain ⟨⟨t255, t256, t259⟩, A60, H⟩ := H
   replace H : (if t253 = true then (spec_CommutatorOf.j0 k (!t259) a0_0 l0_1 t249 t250 t255 t256) else (spec_CommutatorOf.j0 k true a0_0 l0_1 t249 t250 t255 t256)) = some (r1, r2, r3) := H
   have A6 := am A60
   clear A60
   have HC7 := am H
   clear H
   go_enter Try.func7, Try.ntmps7
   go_upto_region 6 with (first | ((with_reducible refine gate_dst (N := 2) rfl ?_); refine box_event ?hg (N := 2) ?hd (cs := #[.int .i64 a0_0, .slice A0_1 l0_1.length c0_1]) (t := 28) ?hr ?_; (case hd => rfl); (case hg => rfl); (case hr => (go_simp; done)); intro gb245 hg w8 hbox hb; have n0_ := am (below_step (by repeat ((with_reducible exact HB.out))) hb); have n1_ := am (hbox); have n2_ := am ((by rw [hg]; exact (below_size (by repeat ((with_reducible exact HB.out)))) : w.heap.size ≤ gb245)); have n3_ := am ((by rw [hg]; exact (below_size (by repeat ((with_reducible exact HB.out)))) : w.heap.size ≤ gb245)); clear HB; have HB := n0_; have BK245 := n1_; have GW245 := n2_; have GE245 := n3_; clear n0_ n1_ n2_ n3_; clear hb hbox hg) | ((with_reducible refine gate_dst (N := 3) rfl ?_); refine box_event ?hg (N := 3) ?hd (cs := #[.int .i64 a1_0, .slice A1_1 l1_1.length c1_1]) (t := 28) ?hr ?_; (case hd => rfl); (case hg => rfl); (case hr => (go_simp; done)); intro gb246 hg w9 hbox hb; have n0_ := am (blk_below (g := gb245) (o := .cells #[.int .i64 a0_0, .slice A0_1 l0_1.length c0_1] 28 (0, 0)) (by exact BK245.out) hb); have n1_ := am (below_step (by repeat ((with_reducible exact HB.out))) hb); have n2_ := am (hbox); have n3_ := am ((by rw [hg]; exact (below_size (by repeat ((with_reducible exact HB.out)))) : w.heap.size ≤ gb246)); have n4_ := am ((by rw [hg]; exact (below_size (by repeat ((with_reducible exact HB.out)))) : w.heap.size ≤ gb246)); have n5_ := am ((by rw [hg]; exact Nat.ne_of_lt (blk_lt (g := gb245) (o := .cells #[.int .i64 a0_0, .slice A0_1 l0_1.length c0_1] 28 (0, 0)) (by exact BK245.out)) : gb245 ≠ gb246)); have n6_ := am ((by rw [hg]; exact Nat.ne_of_gt (blk_lt (g := gb245) (o := .cells #[.int .i64 a0_0, .slice A0_1 l0_1.length c0_1] 28 (0, 0)) (by exact BK245.out)) : gb246 ≠ gb245)); clear BK245; clear HB; have BK245 := n0_; have HB := n1_; have BK246 := n2_; have GW246 := n3_; have GE246 := n4_; have NB245_246 := n5_; have NB246_245 := n6_; clear n0_ n1_ n2_ n3_ n4_ n5_ n6_; clear hb hbox hg) | ((with_reducible refine gate_dst (N := 4) rfl ?_); refine box_event ?hg (N := 4) ?hd (cs := #[.int .i64 0, .slice none 0 0]) (t := 28) ?hr ?_; (case hd => rfl); (case hg => rfl); (case hr => (go_simp; done)); intro gb247 hg w10 hbox hb; have n0_ := am (blk_below (g := gb245) (o := .cells #[.int .i64 a0_0, .slice A0_1 l0_1.length c0_1] 28 (0, 0)) (by exact BK245.out) hb); have n1_ := am (blk_below (g := gb246) (o := .cells #[.int .i64 a1_0, .slice A1_1 l1_1.length c1_1] 28 (0, 0)) (by exact BK246.out) hb); have n2_ := am (below_step (by repeat ((with_reducible exact HB.out))) hb); have n3_ := am (hbox); have n4_ := am ((by rw [hg]; exact (below_size (by repeat ((with_reducible exact HB.out)))) : w.heap.size ≤ gb247)); have n5_ := am ((by rw [hg]; exact (below_size (by repeat ((with_reducible exact HB.out)))) : w.heap.size ≤ gb247)); have n6_ := am ((by rw [hg]; exact Nat.ne_of_lt (blk_lt (g := gb245) (o := .cells #[.int .i64 a0_0, .slice A0_1 l0_1.length c0_1] 28 (0, 0)) (by exact BK245.out)) : gb245 ≠ gb247)); have n7_ := am ((by rw [hg]; exact Nat.ne_of_gt (blk_lt (g := gb245) (o := .cells #[.int .i64 a0_0, .slice A0_1 l0_1.length c0_1] 28 (0, 0)) (by exact BK245.out)) : gb247 ≠ gb245)); have n8_ := am ((by rw [hg]; exact Nat.ne_of_lt (blk_lt (g := gb246) (o := .cells #[.int .i64 a1_0, .slice A1_1 l1_1.length c1_1] 28 (0, 0)) (by exact BK246.out)) : gb246 ≠ gb247)); have n9_ := am ((by rw [hg]; exact Nat.ne_of_gt (blk_lt (g := gb246) (o := .cells #[.int .i64 a1_0, .slice A1_1 l1_1.length c1_1] 28 (0, 0)) (by exact BK246.out)) : gb247 ≠ gb246)); clear BK245; clear BK246; clear HB; have BK245 := n0_; have BK246 := n1_; have HB := n2_; have BK247 := n3_; have GW247 := n4_; have GE247 := n5_; have NB245_247 := n6_; have NB247_245 := n7_; have NB246_247 := n8_; have NB247_246 := n9_; clear n0_ n1_ n2_ n3_ n4_ n5_ n6_ n7_ n8_ n9_; clear hb hbox hg; have hnb11 := NB245_246.out; have hnc11 := NB246_245.out; have hnb12 := NB245_247.out; have hnc12 := NB247_245.out; have hcz13_0 : w10.cell? ⟨gb245, 0, none⟩ = some (.int .i64 a0_0) := (blk_cell BK245.out 0).trans rfl; have hcz13_1 : w10.cell? ⟨gb245, 1, none⟩ = some (.slice A0_1 l0_1.length c0_1) := (blk_cell BK245.out 1).trans rfl; have hfz13_0 := blk_frozen BK245.out 0; have hfz13_1 := blk_frozen BK245.out 1; have hnb14 := NB246_247.out; have hnc14 := NB247_246.out; have hcz15_0 : w10.cell? ⟨gb246, 0, none⟩ = some (.int .i64 a1_0) := (blk_cell BK246.out 0).trans rfl; have hcz15_1 : w10.cell? ⟨gb246, 1, none⟩ = some (.slice A1_1 l1_1.length c1_1) := (blk_cell BK246.out 1).trans rfl; have hfz15_0 := blk_frozen BK246.out 0; have hfz15_1 := blk_frozen BK246.out 1) | ((with_reducible refine gate_callee (f := 18) rfl ?_); refine goesL_ (some 15) rfl rfl Try.func18 (by kernel_rfl) rfl #[.agg #[.int .i64 a0_0, .slice A0_1 l0_1.length c0_1], .agg #[.int .i64 a1_0, .slice A1_1 l1_1.length c1_1]] rfl (by (try simp only [List.map_toArray, List.map_cons, List.map_nil]); rfl) ?_; (with_reducible refine (spec_l03Like.calls k a0_0 _ _ l0_1 a1_0 _ _ l1_1 t248 _ ?side1 ?side2 ?side3 ?side4 A3.out).mono ?_); (case side1 => repeat (exact (Kd.C_below HR0_1.out HB.out))); (case side2 => exact HC0_1.out); (case side3 => repeat (exact (Kd.C_below HR1_1.out HB.out))); (case side4 => exact HC1_1.out); rintro e w16 ⟨rfl, hb⟩; refine ⟨_, rfl, ?_⟩; have n0_ := am (blk_below (g := gb245) (o := .cells #[.int .i64 a0_0, .slice A0_1 l0_1.length c0_1] 28 (0, 0)) (by exact BK245.out) hb); have n1_ := am (blk_below (g := gb246) (o := .cells #[.int .i64 a1_0, .slice A1_1 l1_1.length c1_1] 28 (0, 0)) (by exact BK246.out) hb); have n2_ := am (blk_below (g := gb247) (o := .cells #[.int .i64 0, .slice none 0 0] 28 (0, 0)) (by exact BK247.out) hb); have n3_ := am (below_step (by repeat ((with_reducible exact HB.out))) hb); clear BK245; clear BK246; clear BK247; clear HB; have BK245 := n0_; have BK246 := n1_; have BK247 := n2_; have HB := n3_; clear n0_ n1_ n2_ n3_; (try clear hb); (try clear hb2); (try clear hk); (try clear hi); have hcz17_0 : w16.cell? ⟨gb245, 0, none⟩ = some (.int .i64 a0_0) := (blk_cell BK245.out 0).trans rfl; have hcz17_1 : w16.cell? ⟨gb245, 1, none⟩ = some (.slice A0_1 l0_1.length c0_1) := (blk_cell BK245.out 1).trans rfl; have hfz17_0 := blk_frozen BK245.out 0; have hfz17_1 := blk_frozen BK245.out 1; have hcz18_0 : w16.cell? ⟨gb246, 0, none⟩ = some (.int .i64 a1_0) := (blk_cell BK246.out 0).trans rfl; have hcz18_1 : w16.cell? ⟨gb246, 1, none⟩ = some (.slice A1_1 l1_1.length c1_1) := (blk_cell BK246.out 1).trans rfl; have hfz18_0 := blk_frozen BK246.out 0; have hfz18_1 := blk_frozen BK246.out 1) | ((with_reducible refine gate_callee (f := 19) rfl ?_); refine goesL_ (some 23) rfl rfl Try.func19 (by kernel_rfl) rfl #[.agg #[.int .i64 a0_0, .slice A0_1 l0_1.length c0_1], .agg #[.int .i64 a1_0, .slice A1_1 l1_1.length c1_1]] rfl (by (try simp only [List.map_toArray, List.map_cons, List.map_nil]); rfl) ?_; (with_reducible refine (spec_l03Join.calls k a0_0 _ _ l0_1 a1_0 _ _ l1_1 t249 t250 t253 _ ?side1 ?side2 ?side3 ?side4 A5.out).mono ?_); (case side1 => repeat (exact (Kd.C_below HR0_1.out HB.out))); (case side2 => exact HC0_1.out); (case side3 => repeat (exact (Kd.C_below HR1_1.out HB.out))); (case side4 => exact HC1_1.out); rintro e w19 ⟨v251, rfl, ho0, hb⟩; refine ⟨_, rfl, ?_⟩; have n0_ := am (Kd.S_lower (Kd.S_newM (M := fun k_ => (w.heap.size ≤ k_)) ho0 (below_size (by repeat ((with_reducible exact HB.out)))) (fun k_ h_ => h_)) (below_size (by repeat ((with_reducible exact HB.out))))); have n1_ := am (blk_below (g := gb245) (o := .cells #[.int .i64 a0_0, .slice A0_1 l0_1.length c0_1] 28 (0, 0)) (by exact BK245.out) hb); have n2_ := am (blk_below (g := gb246) (o := .cells #[.int .i64 a1_0, .slice A1_1 l1_1.length c1_1] 28 (0, 0)) (by exact BK246.out) hb); have n3_ := am (blk_below (g := gb247) (o := .cells #[.int .i64 0, .slice none 0 0] 28 (0, 0)) (by exact BK247.out) hb); have n4_ := am (below_step (by repeat ((with_reducible exact HB.out))) hb); clear BK245; clear BK246; clear BK247; clear HB; have HO252 := n0_; have BK245 := n1_; have BK246 := n2_; have BK247 := n3_; have HB := n4_; clear n0_ n1_ n2_ n3_ n4_; (try clear hb); (try clear hb2); (try clear hk); (try clear hi); (try clear ho0)) | ((with_reducible refine gate_dst (N := 7) rfl ?_); refine box_event ?hg (N := 7) ?hd (cs := #[.int .i64 0, .slice none 0 0]) (t := 28) ?hr ?_; (case hd => rfl); (case hg => rfl); (case hr => (go_simp; done)); intro gb254 hg w20 hbox hb; have n0_ := am (Kd.S_below (by (with_reducible repeat (apply Kd.S_drew)); exact HO252.out) hb); have n1_ := am (blk_below (g := gb245) (o := .cells #[.int .i64 a0_0, .slice A0_1 l0_1.length c0_1] 28 (0, 0)) (by exact BK245.out) hb); have n2_ := am (blk_below (g := gb246) (o := .cells #[.int .i64 a1_0, .slice A1_1 l1_1.length c1_1] 28 (0, 0)) (by exact BK246.out) hb); have n3_ := am (blk_below (g := gb247) (o := .cells #[.int .i64 0, .slice none 0 0] 28 (0, 0)) (by exact BK247.out) hb); have n4_ := am (below_step (by repeat ((with_reducible exact HB.out))) hb); have n5_ := am (hbox); have n6_ := am ((by rw [hg]; exact (below_size (by repeat ((with_reducible exact HB.out)))) : w.heap.size ≤ gb254)); have n7_ := am ((by rw [hg]; exact (below_size (by repeat ((with_reducible exact HB.out)))) : w.heap.size ≤ gb254)); have n8_ := am ((by rw [hg]; exact Nat.ne_of_lt (blk_lt (g := gb245) (o := .cells #[.int .i64 a0_0, .slice A0_1 l0_1.length c0_1] 28 (0, 0)) (by exact BK245.out)) : gb245 ≠ gb254)); have n9_ := am ((by rw [hg]; exact Nat.ne_of_gt (blk_lt (g := gb245) (o := .cells #[.int .i64 a0_0, .slice A0_1 l0_1.length c0_1] 28 (0, 0)) (by exact BK245.out)) : gb254 ≠ gb245)); have n10_ := am ((by rw [hg]; exact Nat.ne_of_lt (blk_lt (g := gb246) (o := .cells #[.int .i64 a1_0, .slice A1_1 l1_1.length c1_1] 28 (0, 0)) (by exact BK246.out)) : gb246 ≠ gb254)); have n11_ := am ((by rw [hg]; exact Nat.ne_of_gt (blk_lt (g := gb246) (o := .cells #[.int .i64 a1_0, .slice A1_1 l1_1.length c1_1] 28 (0, 0)) (by exact BK246.out)) : gb254 ≠ gb246)); have n12_ := am ((by rw [hg]; exact Nat.ne_of_lt (blk_lt (g := gb247) (o := .cells #[.int .i64 0, .slice none 0 0] 28 (0, 0)) (by exact BK247.out)) : gb247 ≠ gb254)); have n13_ := am ((by rw [hg]; exact Nat.ne_of_gt (blk_lt (g := gb247) (o := .cells #[.int .i64 0, .slice none 0 0] 28 (0, 0)) (by exact BK247.out)) : gb254 ≠ gb247)); clear HO252; clear BK245; clear BK246; clear BK247; clear HB; have HO252 := n0_; have BK245 := n1_; have BK246 := n2_; have BK247 := n3_; have HB := n4_; have BK254 := n5_; have GW254 := n6_; have GE254 := n7_; have NB245_254 := n8_; have NB254_245 := n9_; have NB246_254 := n10_; have NB254_246 := n11_; have NB247_254 := n12_; have NB254_247 := n13_; clear n0_ n1_ n2_ n3_ n4_ n5_ n6_ n7_ n8_ n9_ n10_ n11_ n12_ n13_; clear hb hbox hg; have hnb21 := NB254_245.out; have hnc21 := NB245_254.out; have hnb22 := NB254_246.out; have hnc22 := NB246_254.out; have hnb23 := NB254_247.out; have hnc23 := NB247_254.out; have hcz24_0 : w20.cell? ⟨gb254, 0, none⟩ = some (.int .i64 0) := (blk_cell BK254.out 0).trans rfl; have hcz24_1 : w20.cell? ⟨gb254, 1, none⟩ = some (.slice none 0 0) := (blk_cell BK254.out 1).trans rfl; have hfz24_0 := blk_frozen BK254.out 0; have hfz24_1 := blk_frozen BK254.out 1; obtain ⟨Ao25, co25, eo25⟩ := Kd.S_slice HO252.out; subst eo25; have hcz26_0 : w20.cell? ⟨gb246, 0, none⟩ = some (.int .i64 a1_0) := (blk_cell BK246.out 0).trans rfl; have hcz26_1 : w20.cell? ⟨gb246, 1, none⟩ = some (.slice A1_1 l1_1.length c1_1) := (blk_cell BK246.out 1).trans rfl; have hfz26_0 := blk_frozen BK246.out 0; have hfz26_1 := blk_frozen BK246.out 1; have hcz27_0 : w20.cell? ⟨gb245, 0, none⟩ = some (.int .i64 a0_0) := (blk_cell BK245.out 0).trans rfl; have hcz27_1 : w20.cell? ⟨gb245, 1, none⟩ = some (.slice A0_1 l0_1.length c0_1) := (blk_cell BK245.out 1).trans rfl; have hfz27_0 := blk_frozen BK245.out 0; have hfz27_1 := blk_frozen BK245.out 1) | ((with_reducible refine gate_callee (f := 19) rfl ?_); refine goesL_ (some 29) rfl rfl Try.func19 (by kernel_rfl) rfl #[.agg #[.int .i64 a1_0, .slice A1_1 l1_1.length c1_1], .agg #[.int .i64 a0_0, .slice A0_1 l0_1.length c0_1]] rfl (by (try simp only [List.map_toArray, List.map_cons, List.map_nil]); rfl) ?_; (with_reducible refine (spec_l03Join.calls k a1_0 _ _ l1_1 a0_0 _ _ l0_1 t255 t256 t259 _ ?side1 ?side2 ?side3 ?side4 A6.out).mono ?_); (case side1 => exact Kd.C_below HR1_1.out (by repeat ((with_reducible first | exact HB.out | refine below_set ?_ GE254.out)))); (case side2 => exact HC1_1.out); (case side3 => exact Kd.C_below HR0_1.out (by repeat ((with_reducible first | exact HB.out | refine below_set ?_ GE254.out)))); (case side4 => exact HC0_1.out); rintro e w28 ⟨v257, rfl, ho0, hb⟩; refine ⟨_, rfl, ?_⟩; have n0_ := am (Kd.S_elder' (by (with_reducible repeat (apply Kd.S_drew)); exact (Kd.S_mono (Kd.S_far (p := ⟨gb254, 1, none⟩) (Kd.S_far (p := ⟨gb254, 0, none⟩) (Kd.S_types HO252.out BK254.out (by decide)) (fun _ hk => hk.2) (.int .i64 t249)) (fun _ hk => hk.2) (.slice Ao25 t250.length co25)) (fun _ h_ => h_.1))) (Kd.S_base ho0) hb); have n1_ := am (Kd.S_lower (Kd.S_new' (Kd.S_newM (M := fun k_ => (w.heap.size ≤ k_)) ho0 (below_size (by repeat ((with_reducible first | exact HB.out | refine below_set ?_ GE254.out)))) (fun k_ h_ => h_)) (Kd.S_lt (by (with_reducible repeat (apply Kd.S_drew)); exact (Kd.S_mono (Kd.S_far (p := ⟨gb254, 1, none⟩) (Kd.S_far (p := ⟨gb254, 0, none⟩) (Kd.S_types HO252.out BK254.out (by decide)) (fun _ hk => hk.2) (.int .i64 t249)) (fun _ hk => hk.2) (.slice Ao25 t250.length co25)) (fun _ h_ => h_.1))))) (below_size (by repeat ((with_reducible first | exact HB.out | refine below_set ?_ GE254.out))))); have n2_ := am (blk_below (g := gb245) (o := .cells #[.int .i64 a0_0, .slice A0_1 l0_1.length c0_1] 28 (0, 0)) (by (with_reducible repeat (refine blk_drew ?_)); refine blk_far ?_ NB245_254.out _; (with_reducible repeat (refine blk_drew ?_)); refine blk_far ?_ NB245_254.out _; (with_reducible repeat (refine blk_drew ?_)); exact BK245.out) hb); have n3_ := am (blk_below (g := gb246) (o := .cells #[.int .i64 a1_0, .slice A1_1 l1_1.length c1_1] 28 (0, 0)) (by (with_reducible repeat (refine blk_drew ?_)); refine blk_far ?_ NB246_254.out _; (with_reducible repeat (refine blk_drew ?_)); refine blk_far ?_ NB246_254.out _; (with_reducible repeat (refine blk_drew ?_)); exact BK246.out) hb); have n4_ := am (blk_below (g := gb247) (o := .cells #[.int .i64 0, .slice none 0 0] 28 (0, 0)) (by (with_reducible repeat (refine blk_drew ?_)); refine blk_far ?_ NB247_254.out _; (with_reducible repeat (refine blk_drew ?_)); refine blk_far ?_ NB247_254.out _; (with_reducible repeat (refine blk_drew ?_)); exact BK247.out) hb); have n5_ := am (blk_below (g := gb254) (o := .cells #[.int .i64 t249, .slice Ao25 t250.length co25] 28 (0, 0)) (by (with_reducible repeat (refine blk_drew ?_)); refine blk_put (cs := #[.int .i64 t249, .slice none 0 0]) ?_ 1 _ rfl; (with_reducible repeat (refine blk_drew ?_)); refine blk_put (cs := #[.int .i64 0, .slice none 0 0]) ?_ 0 _ rfl; (with_reducible repeat (refine blk_drew ?_)); exact BK254.out) hb); have n6_ := am (below_step (by repeat ((with_reducible first | exact HB.out | refine below_set ?_ GE254.out))) hb); clear HO252; clear BK245; clear BK246; clear BK247; clear BK254; clear HB; have HO252 := n0_; have HO258 := n1_; have BK245 := n2_; have BK246 := n3_; have BK247 := n4_; have BK254 := n5_; have HB := n6_; clear n0_ n1_ n2_ n3_ n4_ n5_ n6_; (try clear hb); (try clear hb2); (try clear hk); (try clear hi); (try clear ho0)) | ((with_reducible refine gate_dst (N := 9) rfl ?_); refine box_event ?hg (N := 9) ?hd (cs := #[.int .i64 0, .slice none 0 0]) (t := 28) ?hr ?_; (case hd => rfl); (case hg => rfl); (case hr => (go_simp; done)); intro gb260 hg w29 hbox hb; have n0_ := am (Kd.S_below (by (with_reducible repeat (apply Kd.S_drew)); exact HO252.out) hb); have n1_ := am (Kd.S_below (by (with_reducible repeat (apply Kd.S_drew)); exact HO258.out) hb); have n2_ := am (blk_below (g := gb245) (o := .cells #[.int .i64 a0_0, .slice A0_1 l0_1.length c0_1] 28 (0, 0)) (by exact BK245.out) hb); have n3_ := am (blk_below (g := gb246) (o := .cells #[.int .i64 a1_0, .slice A1_1 l1_1.length c1_1] 28 (0, 0)) (by exact BK246.out) hb); have n4_ := am (blk_below (g := gb247) (o := .cells #[.int .i64 0, .slice none 0 0] 28 (0, 0)) (by exact BK247.out) hb); have n5_ := am (blk_below (g := gb254) (o := .cells #[.int .i64 t249, .slice Ao25 t250.length co25] 28 (0, 0)) (by exact BK254.out) hb); have n6_ := am (below_step (by repeat ((with_reducible exact HB.out))) hb); have n7_ := am (hbox); have n8_ := am ((by rw [hg]; exact (below_size (by repeat ((with_reducible exact HB.out)))) : w.heap.size ≤ gb260)); have n9_ := am ((by rw [hg]; exact (below_size (by repeat ((with_reducible exact HB.out)))) : w.heap.size ≤ gb260)); have n10_ := am ((by rw [hg]; exact Nat.ne_of_lt (blk_lt (g := gb245) (o := .cells #[.int .i64 a0_0, .slice A0_1 l0_1.length c0_1] 28 (0, 0)) (by exact BK245.out)) : gb245 ≠ gb260)); have n11_ := am ((by rw [hg]; exact Nat.ne_of_gt (blk_lt (g := gb245) (o := .cells #[.int .i64 a0_0, .slice A0_1 l0_1.length c0_1] 28 (0, 0)) (by exact BK245.out)) : gb260 ≠ gb245)); have n12_ := am ((by rw [hg]; exact Nat.ne_of_lt (blk_lt (g := gb246) (o := .cells #[.int .i64 a1_0, .slice A1_1 l1_1.length c1_1] 28 (0, 0)) (by exact BK246.out)) : gb246 ≠ gb260)); have n13_ := am ((by rw [hg]; exact Nat.ne_of_gt (blk_lt (g := gb246) (o := .cells #[.int .i64 a1_0, .slice A1_1 l1_1.length c1_1] 28 (0, 0)) (by exact BK246.out)) : gb260 ≠ gb246)); have n14_ := am ((by rw [hg]; exact Nat.ne_of_lt (blk_lt (g := gb247) (o := .cells #[.int .i64 0, .slice none 0 0] 28 (0, 0)) (by exact BK247.out)) : gb247 ≠ gb260)); have n15_ := am ((by rw [hg]; exact Nat.ne_of_gt (blk_lt (g := gb247) (o := .cells #[.int .i64 0, .slice none 0 0] 28 (0, 0)) (by exact BK247.out)) : gb260 ≠ gb247)); have n16_ := am ((by rw [hg]; exact Nat.ne_of_lt (blk_lt (g := gb254) (o := .cells #[.int .i64 t249, .slice Ao25 t250.length co25] 28 (0, 0)) (by exact BK254.out)) : gb254 ≠ gb260)); have n17_ := am ((by rw [hg]; exact Nat.ne_of_gt (blk_lt (g := gb254) (o := .cells #[.int .i64 t249, .slice Ao25 t250.length co25] 28 (0, 0)) (by exact BK254.out)) : gb260 ≠ gb254)); clear HO252; clear HO258; clear BK245; clear BK246; clear BK247; clear BK254; clear HB; have HO252 := n0_; have HO258 := n1_; have BK245 := n2_; have BK246 := n3_; have BK247 := n4_; have BK254 := n5_; have HB := n6_; have BK260 := n7_; have GW260 := n8_; have GE260 := n9_; have NB245_260 := n10_; have NB260_245 := n11_; have NB246_260 := n12_; have NB260_246 := n13_; have NB247_260 := n14_; have NB260_247 := n15_; have NB254_260 := n16_; have NB260_254 := n17_; clear n0_ n1_ n2_ n3_ n4_ n5_ n6_ n7_ n8_ n9_ n10_ n11_ n12_ n13_ n14_ n15_ n16_ n17_; clear hb hbox hg; have hnb30 := NB260_245.out; have hnc30 := NB245_260.out; have hnb31 := NB260_246.out; have hnc31 := NB246_260.out; have hnb32 := NB260_247.out; have hnc32 := NB247_260.out; have hnb33 := NB260_254.out; have hnc33 := NB254_260.out; have hcz34_0 : w29.cell? ⟨gb260, 0, none⟩ = some (.int .i64 0) := (blk_cell BK260.out 0).trans rfl; have hcz34_1 : w29.cell? ⟨gb260, 1, none⟩ = some (.slice none 0 0) := (blk_cell BK260.out 1).trans rfl; have hfz34_0 := blk_frozen BK260.out 0; have hfz34_1 := blk_frozen BK260.out 1; obtain ⟨Ao35, co35, eo35⟩ := Kd.S_slice HO258.out; subst eo35))
   (try simp only [Act.put, q1, q2, q3])
   go_cut [37] (fun v37 wc => ∃ (kq : Nat) (x37_6 : Bool), v37 = .bool x37_6 ∧ Aside0 (spec_CommutatorOf.j0 kq x37_6 a0_0 l0_1 t249 t250 t255 t256 = some (r1, r2, r3)) ∧ Aside0 (kq ≤ k) ∧ Aside0 (Kd.S k65 65 wc w.heap.size (fun k_ => (w.heap.size ≤ k_) ∧ some k_ ≠ ((.slice Ao35 t256.length co35) : Value).ownBlock) (.slice Ao25 t250.length co25) t250) ∧ Aside0 (Kd.S k65 65 wc w.heap.size (fun k_ => (w.heap.size ≤ k_) ∧ some k_ ≠ ((.slice Ao25 t250.length co25) : Value).ownBlock) (.slice Ao35 t256.length co35) t256) ∧ Aside0 (wc.heap[gb245]? = some (.cells #[.int .i64 a0_0, (.slice A0_1 l0_1.length c0_1)] 28 (0, 0))) ∧ Aside0 (wc.heap[gb246]? = some (.cells #[.int .i64 a1_0, (.slice A1_1 l1_1.length c1_1)] 28 (0, 0))) ∧ Aside0 (wc.heap[gb247]? = some (.cells #[.int .i64 0, (.slice none 0 0)] 28 (0, 0))) ∧ Aside0 (wc.heap[gb254]? = some (.cells #[.int .i64 t249, (.slice Ao25 t250.length co25)] 28 (0, 0))) ∧ Aside0 (wc.heap[gb260]? = some (.cells #[.int .i64 t255, (.slice Ao35 t256.length co35)] 28 (0, 0))) ∧ Aside0 (Below w.heap.size w wc))
   case first =>
    have H := HC7.out
    clear HC7
    by_cases c36 : t253 = true
    · subst c36
      have H1 : (spec_CommutatorOf.j0 k (!t259) a0_0 l0_1 t249 t250 t255 t256) = some (r1, r2, r3) := by rw [if_pos rfl] at H; exact H
      clear H
      have H := H1
      clear H1
      have H' := am H
      clear H
      go_wp2
      go_meet
      case rel => exact ⟨_, (!t259), (by rfl), H', ⟨by omega⟩, ⟨by (with_reducible repeat (apply Kd.S_drew)); exact Kd.S_mono (Kd.S_far (p := ⟨gb260, 1, none⟩) (Kd.S_far (p := ⟨gb260, 0, none⟩) (Kd.S_types HO252.out BK260.out (by decide)) (fun _ hk => hk.2) (.int .i64 t255)) (fun _ hk => hk.2) (.slice Ao35 t256.length co35)) (fun _ hk => ⟨hk.1.1.1, hk.1.2⟩)⟩, ⟨by (with_reducible repeat (apply Kd.S_drew)); exact Kd.S_mono (Kd.S_far (p := ⟨gb260, 1, none⟩) (Kd.S_far (p := ⟨gb260, 0, none⟩) (Kd.S_types HO258.out BK260.out (by decide)) (fun _ hk => hk.2) (.int .i64 t255)) (fun _ hk => hk.2) (.slice Ao35 t256.length co35)) (fun _ hk => ⟨hk.1.1.1, hk.1.2⟩)⟩, ⟨by (with_reducible repeat (refine blk_drew ?_)); refine blk_far ?_ NB245_260.out _; (with_reducible repeat (refine blk_drew ?_)); refine blk_far ?_ NB245_260.out _; (with_reducible repeat (refine blk_drew ?_)); exact BK245.out⟩, ⟨by (with_reducible repeat (refine blk_drew ?_)); refine blk_far ?_ NB246_260.out _; (with_reducible repeat (refine blk_drew ?_)); refine blk_far ?_ NB246_260.out _; (with_reducible repeat (refine blk_drew ?_)); exact BK246.out⟩, ⟨by (with_reducible repeat (refine blk_drew ?_)); refine blk_far ?_ NB247_260.out _; (with_reducible repeat (refine blk_drew ?_)); refine blk_far ?_ NB247_260.out _; (with_reducible repeat (refine blk_drew ?_)); exact BK247.out⟩, ⟨by (with_reducible repeat (refine blk_drew ?_)); refine blk_far ?_ NB254_260.out _; (with_reducible repeat (refine blk_drew ?_)); refine blk_far ?_ NB254_260.out _; (with_reducible repeat (refine blk_drew ?_)); exact BK254.out⟩, ⟨by (with_reducible repeat (refine blk_drew ?_)); refine blk_put (cs := #[.int .i64 t255, .slice none 0 0]) ?_ 1 _ rfl; (with_reducible repeat (refine blk_drew ?_)); refine blk_put (cs := #[.int .i64 0, .slice none 0 0]) ?_ 0 _ rfl; (with_reducible repeat (refine blk_drew ?_)); exact BK260.out⟩, ⟨by repeat ((with_reducible first | exact HB.out | refine below_set ?_ GE260.out))⟩⟩
    · replace c36 := Bool.eq_false_iff.mpr c36
      subst c36
      have H1 : (spec_CommutatorOf.j0 k true a0_0 l0_1 t249 t250 t255 t256) = some (r1, r2, r3) := by rw [if_neg (show ¬ (false = true) by decide)] at H; exact H
      clear H
      have H := H1
      clear H1
      have H' := am H
      clear H
      go_wp2
      go_meet
      case rel => exact ⟨_, (true), (by rfl), H', ⟨by omega⟩, ⟨by (with_reducible repeat (apply Kd.S_drew)); exact Kd.S_mono (Kd.S_far (p := ⟨gb260, 1, none⟩) (Kd.S_far (p := ⟨gb260, 0, none⟩) (Kd.S_types HO252.out BK260.out (by decide)) (fun _ hk => hk.2) (.int .i64 t255)) (fun _ hk => hk.2) (.slice Ao35 t256.length co35)) (fun _ hk => ⟨hk.1.1.1, hk.1.2⟩)⟩, ⟨by (with_reducible repeat (apply Kd.S_drew)); exact Kd.S_mono (Kd.S_far (p := ⟨gb260, 1, none⟩) (Kd.S_far (p := ⟨gb260, 0, none⟩) (Kd.S_types HO258.out BK260.out (by decide)) (fun _ hk => hk.2) (.int .i64 t255)) (fun _ hk => hk.2) (.slice Ao35 t256.length co35)) (fun _ hk => ⟨hk.1.1.1, hk.1.2⟩)⟩, ⟨by (with_reducible repeat (refine blk_drew ?_)); refine blk_far ?_ NB245_260.out _; (with_reducible repeat (refine blk_drew ?_)); refine blk_far ?_ NB245_260.out _; (with_reducible repeat (refine blk_drew ?_)); exact BK245.out⟩, ⟨by (with_reducible repeat (refine blk_drew ?_)); refine blk_far ?_ NB246_260.out _; (with_reducible repeat (refine blk_drew ?_)); refine blk_far ?_ NB246_260.out _; (with_reducible repeat (refine blk_drew ?_)); exact BK246.out⟩, ⟨by (with_reducible repeat (refine blk_drew ?_)); refine blk_far ?_ NB247_260.out _; (with_reducible repeat (refine blk_drew ?_)); refine blk_far ?_ NB247_260.out _; (with_reducible repeat (refine blk_drew ?_)); exact BK247.out⟩, ⟨by (with_reducible repeat (refine blk_drew ?_)); refine blk_far ?_ NB254_260.out _; (with_reducible repeat (refine blk_drew ?_)); refine blk_far ?_ NB254_260.out _; (with_reducible repeat (refine blk_drew ?_)); exact BK254.out⟩, ⟨by (with_reducible repeat (refine blk_drew ?_)); refine blk_put (cs := #[.int .i64 t255, .slice none 0 0]) ?_ 1 _ rfl; (with_reducible repeat (refine blk_drew ?_)); refine blk_put (cs := #[.int .i64 0, .slice none 0 0]) ?_ 0 _ rfl; (with_reducible repeat (refine blk_drew ?_)); exact BK260.out⟩, ⟨by repeat ((with_reducible first | exact HB.out | refine below_set ?_ GE260.out))⟩⟩
   case rest =>
    clear HC7
    try clear c1
    try clear c2
    try clear p2
    try clear c3
    try clear c4
    try clear c4b0
    try clear c4b1
    try clear c7
    try clear c11
    try clear c12
    try clear c14
    try clear c18
    try clear c19
    try clear c21
    try clear c22
    try clear c23
    try clear c30
    try clear c31
    try clear c32
    try clear c33
    try clear c36
    try clear hcz13_0
    try clear hcz13_1
    try clear hcz15_0
    try clear hcz15_1
    try clear hcz17_0
    try clear hcz17_1
    try clear hcz18_0
    try clear hcz18_1
    try clear hcz24_0
    try clear hcz24_1
    try clear hcz26_0
    try clear hcz26_1
    try clear hcz27_0
    try clear hcz27_1
    try clear hcz34_0
    try clear hcz34_1
    try clear hfz13_0
    try clear hfz13_1
    try clear hfz15_0
    try clear hfz15_1
    try clear hfz17_0
    try clear hfz17_1
    try clear hfz18_0
    try clear hfz18_1
    try clear hfz24_0
    try clear hfz24_1
    try clear hfz26_0
    try clear hfz26_1
    try clear hfz27_0
    try clear hfz27_1
    try clear hfz34_0
    try clear hfz34_1
    obtain ⟨kq, x37_6, rfl, HA, HJ6, HO_255001, HO_261001, BK245, BK246, BK247, BK254, BK260, HB⟩ := hcut
    cases kq with
    | zero => exact absurd HA.out (by simp [spec_CommutatorOf.j0])
    | succ kj6 =>
     have H := HA.out
     clear HA
     simp only [spec_CommutatorOf.j0] at H
     by_cases c37 : x37_6 = true
     · subst c37
       have H1 : (some (0, ([] : List (S65)), 3)) = some (r1, r2, r3) := by rw [if_pos rfl] at H; exact H
       clear H
       have H := H1
       clear H1
       simp only [Option.some.injEq, Prod.mk.injEq] at H
       obtain ⟨rfl, rfl, rfl⟩ := H
       have hnb38 := NB247_245.out
       have hnc38 := NB245_247.out
       have hnb39 := NB247_246.out
       have hnc39 := NB246_247.out
       have hnb40 := NB247_254.out
       have hnc40 := NB254_247.out
       have hnb41 := NB247_260.out
       have hnc41 := NB260_247.out
       have hcz42_0 : wc.cell? ⟨gb247, 0, none⟩ = some (.int .i64 0) := (blk_cell BK247.out 0).trans rfl
       have hcz42_1 : wc.cell? ⟨gb247, 1, none⟩ = some (.slice none 0 0) := (blk_cell BK247.out 1).trans rfl
       have hfz42_0 := blk_frozen BK247.out 0
       have hfz42_1 := blk_frozen BK247.out 1
       go_wp2
       refine bodyPost_ret (results_ct rfl _ _ gb247 28 #[.int .i64 0, .slice none 0 0] (0, 0) _ rfl (by (with_reducible repeat (refine blk_drew ?_)); refine blk_put (cs := #[.int .i64 0, .slice none 0 0]) ?_ 1 _ rfl; (with_reducible repeat (refine blk_drew ?_)); refine blk_put (cs := #[.int .i64 0, .slice none 0 0]) ?_ 0 _ rfl; (with_reducible repeat (refine blk_drew ?_)); exact BK247.out) Try.underlying28 rfl (by kernel_rfl)) rfl ?_
       exact ⟨_, by rfl, Kd.V_nil _ _ _ _ _, by repeat ((with_reducible first | exact HB.out | refine below_set ?_ GE247.out))⟩
     · replace c37 := Bool.eq_false_iff.mpr c37
       subst c37
       have H1 : ((spec_l03Plus.f kj6 t249 t250 t255 t256 (wrap64 (a0_0 - 1))).bind fun bt261 => ((spec_l03Told.f bt261.1 bt261.2).bind fun bt265 => (some (bt265.1, bt265.2.1, bt265.2.2)))) = some (r1, r2, r3) := by rw [if_neg (show ¬ (false = true) by decide)] at H; exact H
       clear H
       have H := H1
       clear H1
       replace H := Option.bind_eq_some_iff.mp H
       obtain ⟨⟨t261, t262⟩, A430, H⟩ := H
       replace H : ((spec_l03Told.f t261 t262).bind fun bt265 => (some (bt265.1, bt265.2.1, bt265.2.2))) = some (r1, r2, r3) := H
       have A43 := am A430
       clear A430
       replace H := Option.bind_eq_some_iff.mp H
       obtain ⟨⟨t265, t266, t269⟩, A440, H⟩ := H
       replace H : (some (t265, t266, t269)) = some (r1, r2, r3) := H
       have A44 := am A440
       clear A440
       simp only [Option.some.injEq, Prod.mk.injEq] at H
       obtain ⟨rfl, rfl, rfl⟩ := H
       have hnb45 := NB254_245.out
       have hnc45 := NB245_254.out
       have hnb46 := NB254_246.out
       have hnc46 := NB246_254.out
       have hnb47 := NB254_247.out
       have hnc47 := NB247_254.out
       have hnb48 := NB254_260.out
       have hnc48 := NB260_254.out
       have hcz49_0 : wc.cell? ⟨gb254, 0, none⟩ = some (.int .i64 t249) := (blk_cell BK254.out 0).trans rfl
       have hcz49_1 : wc.cell? ⟨gb254, 1, none⟩ = some (.slice Ao25 t250.length co25) := (blk_cell BK254.out 1).trans rfl
       have hfz49_0 := blk_frozen BK254.out 0
       have hfz49_1 := blk_frozen BK254.out 1
       have hnb50 := NB260_245.out
       have hnc50 := NB245_260.out
       have hnb51 := NB260_246.out
       have hnc51 := NB246_260.out
       have hnb52 := NB260_247.out
       have hnc52 := NB247_260.out
       have hcz53_0 : wc.cell? ⟨gb260, 0, none⟩ = some (.int .i64 t255) := (blk_cell BK260.out 0).trans rfl
       have hcz53_1 : wc.cell? ⟨gb260, 1, none⟩ = some (.slice Ao35 t256.length co35) := (blk_cell BK260.out 1).trans rfl
       have hfz53_0 := blk_frozen BK260.out 0
       have hfz53_1 := blk_frozen BK260.out 1
       have hnb54 := NB245_246.out
       have hnc54 := NB246_245.out
       have hnb55 := NB245_247.out
       have hnc55 := NB247_245.out
       have hcz56_0 : wc.cell? ⟨gb245, 0, none⟩ = some (.int .i64 a0_0) := (blk_cell BK245.out 0).trans rfl
       have hcz56_1 : wc.cell? ⟨gb245, 1, none⟩ = some (.slice A0_1 l0_1.length c0_1) := (blk_cell BK245.out 1).trans rfl
       have hfz56_0 := blk_frozen BK245.out 0
       have hfz56_1 := blk_frozen BK245.out 1
       go_wp2_with (first | ((with_reducible refine gate_callee (f := 21) rfl ?_); refine goesL_ (some 45) rfl rfl Try.func21 (by kernel_rfl) rfl #[.agg #[.int .i64 t249, .slice Ao25 t250.length co25], .agg #[.int .i64 t255, .slice Ao35 t256.length co35], .int .i64 (wrap64 (a0_0 - 1))] rfl (by (try simp only [List.map_toArray, List.map_cons, List.map_nil]); rfl) ?_; (with_reducible refine (spec_l03Plus.calls kj6 t249 (fun k_ => (((((((w.heap.size ≤ k_) ∧ some k_ ≠ (.slice Ao35 t256.length co35 : Value).ownBlock) ∧ k_ ≠ gb245) ∧ k_ ≠ gb246) ∧ k_ ≠ gb247) ∧ k_ ≠ gb254) ∧ k_ ≠ gb260)) _ _ t250 t255 _ _ t256 (wrap64 (a0_0 - 1)) t261 t262 _ ?side1 ?side2 ?side3 A43.out).mono ?_); (case side1 => exact Kd.S_V (Kd.S_types (Kd.S_types (Kd.S_types (Kd.S_types (Kd.S_types (HO_255001.out) BK245.out (by decide)) BK246.out (by decide)) BK247.out (by decide)) BK254.out (by decide)) BK260.out (by decide))); (case side2 => repeat (exact (Kd.S_reads' HO_261001.out).2.2)); (case side3 => exact (Kd.S_reads' HO_261001.out).2.1); rintro e w57 ⟨v263, rfl, ho0, hb⟩; refine ⟨_, rfl, ?_⟩; have n0_ := am (Kd.S_below (by (with_reducible repeat (apply Kd.S_drew)); exact HO_255001.out) hb); have n1_ := am (Kd.S_below (by (with_reducible repeat (apply Kd.S_drew)); exact HO_261001.out) hb); have n2_ := am (Kd.V_lower (Kd.V_mono (ok' := fun k_ => (w.heap.size ≤ k_) ∧ some k_ ≠ (.slice Ao35 t256.length co35 : Value).ownBlock ∧ k_ ≠ gb245 ∧ k_ ≠ gb246 ∧ k_ ≠ gb247 ∧ k_ ≠ gb254 ∧ k_ ≠ gb260) ho0 (fun k_ hk_ => ⟨Or.elim hk_ (fun hs_ => hs_.1.1.1.1.1.1) (fun hn_ => (Nat.le_trans (below_size (by repeat ((with_reducible exact HB.out)))) hn_)), Or.elim hk_ (fun hs_ => hs_.1.1.1.1.1.2) (fun hn_ => (Kd.fresh' (Kd.S_lt (by (with_reducible repeat (apply Kd.S_drew)); exact HO_261001.out)) k_ hn_)), Or.elim hk_ (fun hs_ => hs_.1.1.1.1.2) (fun hn_ => (Kd.freshB (g := gb245) (o := .cells #[.int .i64 a0_0, .slice A0_1 l0_1.length c0_1] 28 (0, 0)) (by exact BK245.out) k_ hn_)), Or.elim hk_ (fun hs_ => hs_.1.1.1.2) (fun hn_ => (Kd.freshB (g := gb246) (o := .cells #[.int .i64 a1_0, .slice A1_1 l1_1.length c1_1] 28 (0, 0)) (by exact BK246.out) k_ hn_)), Or.elim hk_ (fun hs_ => hs_.1.1.2) (fun hn_ => (Kd.freshB (g := gb247) (o := .cells #[.int .i64 0, .slice none 0 0] 28 (0, 0)) (by exact BK247.out) k_ hn_)), Or.elim hk_ (fun hs_ => hs_.1.2) (fun hn_ => (Kd.freshB (g := gb254) (o := .cells #[.int .i64 t249, .slice Ao25 t250.length co25] 28 (0, 0)) (by exact BK254.out) k_ hn_)), Or.elim hk_ (fun hs_ => hs_.2) (fun hn_ => (Kd.freshB (g := gb260) (o := .cells #[.int .i64 t255, .slice Ao35 t256.length co35] 28 (0, 0)) (by exact BK260.out) k_ hn_))⟩)) (below_size (by repeat ((with_reducible exact HB.out))))); have n3_ := am (blk_below (g := gb245) (o := .cells #[.int .i64 a0_0, .slice A0_1 l0_1.length c0_1] 28 (0, 0)) (by exact BK245.out) hb); have n4_ := am (blk_below (g := gb246) (o := .cells #[.int .i64 a1_0, .slice A1_1 l1_1.length c1_1] 28 (0, 0)) (by exact BK246.out) hb); have n5_ := am (blk_below (g := gb247) (o := .cells #[.int .i64 0, .slice none 0 0] 28 (0, 0)) (by exact BK247.out) hb); have n6_ := am (blk_below (g := gb254) (o := .cells #[.int .i64 t249, .slice Ao25 t250.length co25] 28 (0, 0)) (by exact BK254.out) hb); have n7_ := am (blk_below (g := gb260) (o := .cells #[.int .i64 t255, .slice Ao35 t256.length co35] 28 (0, 0)) (by exact BK260.out) hb); have n8_ := am (below_step (by repeat ((with_reducible exact HB.out))) hb); clear HO_255001; clear HO_261001; clear BK245; clear BK246; clear BK247; clear BK254; clear BK260; clear HB; have HO_255001 := n0_; have HO_261001 := n1_; have HO264 := n2_; have BK245 := n3_; have BK246 := n4_; have BK247 := n5_; have BK254 := n6_; have BK260 := n7_; have HB := n8_; clear n0_ n1_ n2_ n3_ n4_ n5_ n6_ n7_ n8_; (try clear hb); (try clear hb2); (try clear hk); (try clear hi); (try clear ho0); obtain ⟨Ao58, co58, eo58⟩ := Kd.V_slice HO264.out; subst eo58) | ((with_reducible refine gate_callee (f := 20) rfl ?_); refine goesL_ (some 46) rfl rfl Try.func20 (by kernel_rfl) rfl #[.agg #[.int .i64 t261, .slice Ao58 t262.length co58]] rfl (by (try simp only [List.map_toArray, List.map_cons, List.map_nil]); rfl) ?_; (with_reducible refine (spec_l03Told.calls t261 (fun k_ => ((w.heap.size ≤ k_) ∧ (some k_ ≠ (.slice Ao35 t256.length co35 : Value).ownBlock ∧ (k_ ≠ gb245 ∧ (k_ ≠ gb246 ∧ (k_ ≠ gb247 ∧ (k_ ≠ gb254 ∧ k_ ≠ gb260))))))) _ _ t262 t265 t266 t269 _ ?side1 A44.out).mono ?_); (case side1 => exact HO264.out); rintro e w59 ⟨v267, rfl, ho0, hb⟩; refine ⟨_, rfl, ?_⟩; have n0_ := am (Kd.S_below (by (with_reducible repeat (apply Kd.S_drew)); exact HO_255001.out) hb); have n1_ := am (Kd.S_below (by (with_reducible repeat (apply Kd.S_drew)); exact HO_261001.out) hb); have n2_ := am (Kd.V_below (by (with_reducible repeat (apply Kd.V_drew)); exact HO264.out) hb); have n3_ := am (Kd.V_lower (Kd.V_mono (ok' := fun k_ => (w.heap.size ≤ k_) ∧ some k_ ≠ (.slice Ao35 t256.length co35 : Value).ownBlock ∧ k_ ≠ gb245 ∧ k_ ≠ gb246 ∧ k_ ≠ gb247 ∧ k_ ≠ gb254 ∧ k_ ≠ gb260) ho0 (fun k_ hk_ => ⟨Or.elim hk_ (fun hs_ => hs_.1) (fun hn_ => (Nat.le_trans (below_size (by repeat ((with_reducible exact HB.out)))) hn_)), Or.elim hk_ (fun hs_ => hs_.2.1) (fun hn_ => (Kd.fresh' (Kd.S_lt (by (with_reducible repeat (apply Kd.S_drew)); exact HO_261001.out)) k_ hn_)), Or.elim hk_ (fun hs_ => hs_.2.2.1) (fun hn_ => (Kd.freshB (g := gb245) (o := .cells #[.int .i64 a0_0, .slice A0_1 l0_1.length c0_1] 28 (0, 0)) (by exact BK245.out) k_ hn_)), Or.elim hk_ (fun hs_ => hs_.2.2.2.1) (fun hn_ => (Kd.freshB (g := gb246) (o := .cells #[.int .i64 a1_0, .slice A1_1 l1_1.length c1_1] 28 (0, 0)) (by exact BK246.out) k_ hn_)), Or.elim hk_ (fun hs_ => hs_.2.2.2.2.1) (fun hn_ => (Kd.freshB (g := gb247) (o := .cells #[.int .i64 0, .slice none 0 0] 28 (0, 0)) (by exact BK247.out) k_ hn_)), Or.elim hk_ (fun hs_ => hs_.2.2.2.2.2.1) (fun hn_ => (Kd.freshB (g := gb254) (o := .cells #[.int .i64 t249, .slice Ao25 t250.length co25] 28 (0, 0)) (by exact BK254.out) k_ hn_)), Or.elim hk_ (fun hs_ => hs_.2.2.2.2.2.2) (fun hn_ => (Kd.freshB (g := gb260) (o := .cells #[.int .i64 t255, .slice Ao35 t256.length co35] 28 (0, 0)) (by exact BK260.out) k_ hn_))⟩)) (below_size (by repeat ((with_reducible exact HB.out))))); have n4_ := am (blk_below (g := gb245) (o := .cells #[.int .i64 a0_0, .slice A0_1 l0_1.length c0_1] 28 (0, 0)) (by exact BK245.out) hb); have n5_ := am (blk_below (g := gb246) (o := .cells #[.int .i64 a1_0, .slice A1_1 l1_1.length c1_1] 28 (0, 0)) (by exact BK246.out) hb); have n6_ := am (blk_below (g := gb247) (o := .cells #[.int .i64 0, .slice none 0 0] 28 (0, 0)) (by exact BK247.out) hb); have n7_ := am (blk_below (g := gb254) (o := .cells #[.int .i64 t249, .slice Ao25 t250.length co25] 28 (0, 0)) (by exact BK254.out) hb); have n8_ := am (blk_below (g := gb260) (o := .cells #[.int .i64 t255, .slice Ao35 t256.length co35] 28 (0, 0)) (by exact BK260.out) hb); have n9_ := am (below_step (by repeat ((with_reducible exact HB.out))) hb); clear HO_255001; clear HO_261001; clear HO264; clear BK245; clear BK246; clear BK247; clear BK254; clear BK260; clear HB; have HO_255001 := n0_; have HO_261001 := n1_; have HO264 := n2_; have HO268 := n3_; have BK245 := n4_; have BK246 := n5_; have BK247 := n6_; have BK254 := n7_; have BK260 := n8_; have HB := n9_; clear n0_ n1_ n2_ n3_ n4_ n5_ n6_ n7_ n8_ n9_; (try clear hb); (try clear hb2); (try clear hk); (try clear hi); (try clear ho0)) | ((with_reducible refine gate_dst (N := 11) rfl ?_); refine box_event ?hg (N := 11) ?hd (cs := #[.int .i64 0, .slice none 0 0]) (t := 28) ?hr ?_; (case hd => rfl); (case hg => rfl); (case hr => (go_simp; done)); intro gb270 hg w60 hbox hb; have n0_ := am (Kd.S_below (by (with_reducible repeat (apply Kd.S_drew)); exact HO_255001.out) hb); have n1_ := am (Kd.S_below (by (with_reducible repeat (apply Kd.S_drew)); exact HO_261001.out) hb); have n2_ := am (Kd.V_below (Kd.V_elderB (by (with_reducible repeat (apply Kd.V_drew)); exact HO264.out) gb270 (Nat.le_of_eq hg.symm)) hb); have n3_ := am (Kd.V_below (Kd.V_elderB (by (with_reducible repeat (apply Kd.V_drew)); exact HO268.out) gb270 (Nat.le_of_eq hg.symm)) hb); have n4_ := am (blk_below (g := gb245) (o := .cells #[.int .i64 a0_0, .slice A0_1 l0_1.length c0_1] 28 (0, 0)) (by exact BK245.out) hb); have n5_ := am (blk_below (g := gb246) (o := .cells #[.int .i64 a1_0, .slice A1_1 l1_1.length c1_1] 28 (0, 0)) (by exact BK246.out) hb); have n6_ := am (blk_below (g := gb247) (o := .cells #[.int .i64 0, .slice none 0 0] 28 (0, 0)) (by exact BK247.out) hb); have n7_ := am (blk_below (g := gb254) (o := .cells #[.int .i64 t249, .slice Ao25 t250.length co25] 28 (0, 0)) (by exact BK254.out) hb); have n8_ := am (blk_below (g := gb260) (o := .cells #[.int .i64 t255, .slice Ao35 t256.length co35] 28 (0, 0)) (by exact BK260.out) hb); have n9_ := am (below_step (by repeat ((with_reducible exact HB.out))) hb); have n10_ := am (hbox); have n11_ := am ((by rw [hg]; exact (below_size (by repeat ((with_reducible exact HB.out)))) : w.heap.size ≤ gb270)); have n12_ := am ((by rw [hg]; exact (below_size (by repeat ((with_reducible exact HB.out)))) : w.heap.size ≤ gb270)); have n13_ := am ((by rw [hg]; exact Nat.ne_of_lt (blk_lt (g := gb245) (o := .cells #[.int .i64 a0_0, .slice A0_1 l0_1.length c0_1] 28 (0, 0)) (by exact BK245.out)) : gb245 ≠ gb270)); have n14_ := am ((by rw [hg]; exact Nat.ne_of_gt (blk_lt (g := gb245) (o := .cells #[.int .i64 a0_0, .slice A0_1 l0_1.length c0_1] 28 (0, 0)) (by exact BK245.out)) : gb270 ≠ gb245)); have n15_ := am ((by rw [hg]; exact Nat.ne_of_lt (blk_lt (g := gb246) (o := .cells #[.int .i64 a1_0, .slice A1_1 l1_1.length c1_1] 28 (0, 0)) (by exact BK246.out)) : gb246 ≠ gb270)); have n16_ := am ((by rw [hg]; exact Nat.ne_of_gt (blk_lt (g := gb246) (o := .cells #[.int .i64 a1_0, .slice A1_1 l1_1.length c1_1] 28 (0, 0)) (by exact BK246.out)) : gb270 ≠ gb246)); have n17_ := am ((by rw [hg]; exact Nat.ne_of_lt (blk_lt (g := gb247) (o := .cells #[.int .i64 0, .slice none 0 0] 28 (0, 0)) (by exact BK247.out)) : gb247 ≠ gb270)); have n18_ := am ((by rw [hg]; exact Nat.ne_of_gt (blk_lt (g := gb247) (o := .cells #[.int .i64 0, .slice none 0 0] 28 (0, 0)) (by exact BK247.out)) : gb270 ≠ gb247)); have n19_ := am ((by rw [hg]; exact Nat.ne_of_lt (blk_lt (g := gb254) (o := .cells #[.int .i64 t249, .slice Ao25 t250.length co25] 28 (0, 0)) (by exact BK254.out)) : gb254 ≠ gb270)); have n20_ := am ((by rw [hg]; exact Nat.ne_of_gt (blk_lt (g := gb254) (o := .cells #[.int .i64 t249, .slice Ao25 t250.length co25] 28 (0, 0)) (by exact BK254.out)) : gb270 ≠ gb254)); have n21_ := am ((by rw [hg]; exact Nat.ne_of_lt (blk_lt (g := gb260) (o := .cells #[.int .i64 t255, .slice Ao35 t256.length co35] 28 (0, 0)) (by exact BK260.out)) : gb260 ≠ gb270)); have n22_ := am ((by rw [hg]; exact Nat.ne_of_gt (blk_lt (g := gb260) (o := .cells #[.int .i64 t255, .slice Ao35 t256.length co35] 28 (0, 0)) (by exact BK260.out)) : gb270 ≠ gb260)); clear HO_255001; clear HO_261001; clear HO264; clear HO268; clear BK245; clear BK246; clear BK247; clear BK254; clear BK260; clear HB; have HO_255001 := n0_; have HO_261001 := n1_; have HO264 := n2_; have HO268 := n3_; have BK245 := n4_; have BK246 := n5_; have BK247 := n6_; have BK254 := n7_; have BK260 := n8_; have HB := n9_; have BK270 := n10_; have GW270 := n11_; have GE270 := n12_; have NB245_270 := n13_; have NB270_245 := n14_; have NB246_270 := n15_; have NB270_246 := n16_; have NB247_270 := n17_; have NB270_247 := n18_; have NB254_270 := n19_; have NB270_254 := n20_; have NB260_270 := n21_; have NB270_260 := n22_; clear n0_ n1_ n2_ n3_ n4_ n5_ n6_ n7_ n8_ n9_ n10_ n11_ n12_ n13_ n14_ n15_ n16_ n17_ n18_ n19_ n20_ n21_ n22_; clear hb hbox hg; have hnb61 := NB270_245.out; have hnc61 := NB245_270.out; have hnb62 := NB270_246.out; have hnc62 := NB246_270.out; have hnb63 := NB270_247.out; have hnc63 := NB247_270.out; have hnb64 := NB270_254.out; have hnc64 := NB254_270.out; have hnb65 := NB270_260.out; have hnc65 := NB260_270.out; have hcz66_0 : w60.cell? ⟨gb270, 0, none⟩ = some (.int .i64 0) := (blk_cell BK270.out 0).trans rfl; have hcz66_1 : w60.cell? ⟨gb270, 1, none⟩ = some (.slice none 0 0) := (blk_cell BK270.out 1).trans rfl; have hfz66_0 := blk_frozen BK270.out 0; have hfz66_1 := blk_frozen BK270.out 1; obtain ⟨Ao67, co67, eo67⟩ := Kd.V_slice HO268.out; subst eo67; have hnb68 := NB247_246.out; have hnc68 := NB246_247.out; have hcz69_0 : w60.cell? ⟨gb247, 0, none⟩ = some (.int .i64 0) := (blk_cell BK247.out 0).trans rfl; have hcz69_1 : w60.cell? ⟨gb247, 1, none⟩ = some (.slice none 0 0) := (blk_cell BK247.out 1).trans rfl; have hfz69_0 := blk_frozen BK247.out 0; have hfz69_1 := blk_frozen BK247.out 1))
       refine bodyPost_ret (results_ct rfl _ _ gb247 28 #[.int .i64 t265, .slice Ao67 t266.length co67] (0, 0) _ rfl (by (with_reducible repeat (refine blk_drew ?_)); refine blk_put (cs := #[.int .i64 t265, .slice none 0 0]) ?_ 1 _ rfl; (with_reducible repeat (refine blk_drew ?_)); refine blk_put (cs := #[.int .i64 0, .slice none 0 0]) ?_ 0 _ rfl; (with_reducible repeat (refine blk_drew ?_)); refine blk_far ?_ NB247_270.out _; (with_reducible repeat (refine blk_drew ?_)); refine blk_far ?_ NB247_270.out _; (with_reducible repeat (refine blk_drew ?_)); exact BK247.out) Try.underlying28 rfl (by kernel_rfl)) rfl ?_
       exact ⟨_, by rfl, by (with_reducible repeat (apply Kd.V_drew)); exact Kd.V_mono (Kd.V_far (p := ⟨gb247, 1, none⟩) (Kd.V_far (p := ⟨gb247, 0, none⟩) (Kd.V_far (p := ⟨gb270, 1, none⟩) (Kd.V_far (p := ⟨gb270, 0, none⟩) (Kd.V_mono (Kd.V_mono HO268.out (fun k_ hk => (⟨hk, hk.2⟩ : _ ∧ k_ ≠ gb270))) (fun k_ hk => (⟨hk, hk.1.1.2.2.2.2.1⟩ : _ ∧ k_ ≠ gb247))) (fun _ hk => hk.1.2) (.int .i64 t265)) (fun _ hk => hk.1.2) (.slice Ao67 t266.length co67)) (fun _ hk => hk.2) (.int .i64 t265)) (fun _ hk => hk.2) (.slice Ao67 t266.length co67)) (fun _ hk => hk.1.1.1.1), by repeat ((with_reducible first | exact HB.out | refine below_set ?_ GE247.out | refine below_set ?_ GE270.out))⟩
 · rw [if_neg c4] at H
   have c4b0 : (t248 == 0) = false := beq_eq_false_iff_ne.mpr c4
   have c4b1 : (t248 != 0) = true := bne_iff_ne.mpr c4
   simp only [Option.some.injEq, Prod.mk.injEq] at H
   obtain ⟨rfl, rfl, rfl⟩ := H
   go_enter Try.func7, Try.ntmps7
   go_wp2_with (first | ((with_reducible refine gate_dst (N := 2) rfl ?_); refine box_event ?hg (N := 2) ?hd (cs := #[.int .i64 a0_0, .slice A0_1 l0_1.length c0_1]) (t := 28) ?hr ?_; (case hd => rfl); (case hg => rfl); (case hr => (go_simp; done)); intro gb245 hg w70 hbox hb; have n0_ := am (below_step (by repeat ((with_reducible exact HB.out))) hb); have n1_ := am (hbox); have n2_ := am ((by rw [hg]; exact (below_size (by repeat ((with_reducible exact HB.out)))) : w.heap.size ≤ gb245)); have n3_ := am ((by rw [hg]; exact (below_size (by repeat ((with_reducible exact HB.out)))) : w.heap.size ≤ gb245)); clear HB; have HB := n0_; have BK245 := n1_; have GW245 := n2_; have GE245 := n3_; clear n0_ n1_ n2_ n3_; clear hb hbox hg) | ((with_reducible refine gate_dst (N := 3) rfl ?_); refine box_event ?hg (N := 3) ?hd (cs := #[.int .i64 a1_0, .slice A1_1 l1_1.length c1_1]) (t := 28) ?hr ?_; (case hd => rfl); (case hg => rfl); (case hr => (go_simp; done)); intro gb246 hg w71 hbox hb; have n0_ := am (blk_below (g := gb245) (o := .cells #[.int .i64 a0_0, .slice A0_1 l0_1.length c0_1] 28 (0, 0)) (by exact BK245.out) hb); have n1_ := am (below_step (by repeat ((with_reducible exact HB.out))) hb); have n2_ := am (hbox); have n3_ := am ((by rw [hg]; exact (below_size (by repeat ((with_reducible exact HB.out)))) : w.heap.size ≤ gb246)); have n4_ := am ((by rw [hg]; exact (below_size (by repeat ((with_reducible exact HB.out)))) : w.heap.size ≤ gb246)); have n5_ := am ((by rw [hg]; exact Nat.ne_of_lt (blk_lt (g := gb245) (o := .cells #[.int .i64 a0_0, .slice A0_1 l0_1.length c0_1] 28 (0, 0)) (by exact BK245.out)) : gb245 ≠ gb246)); have n6_ := am ((by rw [hg]; exact Nat.ne_of_gt (blk_lt (g := gb245) (o := .cells #[.int .i64 a0_0, .slice A0_1 l0_1.length c0_1] 28 (0, 0)) (by exact BK245.out)) : gb246 ≠ gb245)); clear BK245; clear HB; have BK245 := n0_; have HB := n1_; have BK246 := n2_; have GW246 := n3_; have GE246 := n4_; have NB245_246 := n5_; have NB246_245 := n6_; clear n0_ n1_ n2_ n3_ n4_ n5_ n6_; clear hb hbox hg) | ((with_reducible refine gate_dst (N := 4) rfl ?_); refine box_event ?hg (N := 4) ?hd (cs := #[.int .i64 0, .slice none 0 0]) (t := 28) ?hr ?_; (case hd => rfl); (case hg => rfl); (case hr => (go_simp; done)); intro gb247 hg w72 hbox hb; have n0_ := am (blk_below (g := gb245) (o := .cells #[.int .i64 a0_0, .slice A0_1 l0_1.length c0_1] 28 (0, 0)) (by exact BK245.out) hb); have n1_ := am (blk_below (g := gb246) (o := .cells #[.int .i64 a1_0, .slice A1_1 l1_1.length c1_1] 28 (0, 0)) (by exact BK246.out) hb); have n2_ := am (below_step (by repeat ((with_reducible exact HB.out))) hb); have n3_ := am (hbox); have n4_ := am ((by rw [hg]; exact (below_size (by repeat ((with_reducible exact HB.out)))) : w.heap.size ≤ gb247)); have n5_ := am ((by rw [hg]; exact (below_size (by repeat ((with_reducible exact HB.out)))) : w.heap.size ≤ gb247)); have n6_ := am ((by rw [hg]; exact Nat.ne_of_lt (blk_lt (g := gb245) (o := .cells #[.int .i64 a0_0, .slice A0_1 l0_1.length c0_1] 28 (0, 0)) (by exact BK245.out)) : gb245 ≠ gb247)); have n7_ := am ((by rw [hg]; exact Nat.ne_of_gt (blk_lt (g := gb245) (o := .cells #[.int .i64 a0_0, .slice A0_1 l0_1.length c0_1] 28 (0, 0)) (by exact BK245.out)) : gb247 ≠ gb245)); have n8_ := am ((by rw [hg]; exact Nat.ne_of_lt (blk_lt (g := gb246) (o := .cells #[.int .i64 a1_0, .slice A1_1 l1_1.length c1_1] 28 (0, 0)) (by exact BK246.out)) : gb246 ≠ gb247)); have n9_ := am ((by rw [hg]; exact Nat.ne_of_gt (blk_lt (g := gb246) (o := .cells #[.int .i64 a1_0, .slice A1_1 l1_1.length c1_1] 28 (0, 0)) (by exact BK246.out)) : gb247 ≠ gb246)); clear BK245; clear BK246; clear HB; have BK245 := n0_; have BK246 := n1_; have HB := n2_; have BK247 := n3_; have GW247 := n4_; have GE247 := n5_; have NB245_247 := n6_; have NB247_245 := n7_; have NB246_247 := n8_; have NB247_246 := n9_; clear n0_ n1_ n2_ n3_ n4_ n5_ n6_ n7_ n8_ n9_; clear hb hbox hg; have hnb73 := NB245_246.out; have hnc73 := NB246_245.out; have hnb74 := NB245_247.out; have hnc74 := NB247_245.out; have hcz75_0 : w72.cell? ⟨gb245, 0, none⟩ = some (.int .i64 a0_0) := (blk_cell BK245.out 0).trans rfl; have hcz75_1 : w72.cell? ⟨gb245, 1, none⟩ = some (.slice A0_1 l0_1.length c0_1) := (blk_cell BK245.out 1).trans rfl; have hfz75_0 := blk_frozen BK245.out 0; have hfz75_1 := blk_frozen BK245.out 1; have hnb76 := NB246_247.out; have hnc76 := NB247_246.out; have hcz77_0 : w72.cell? ⟨gb246, 0, none⟩ = some (.int .i64 a1_0) := (blk_cell BK246.out 0).trans rfl; have hcz77_1 : w72.cell? ⟨gb246, 1, none⟩ = some (.slice A1_1 l1_1.length c1_1) := (blk_cell BK246.out 1).trans rfl; have hfz77_0 := blk_frozen BK246.out 0; have hfz77_1 := blk_frozen BK246.out 1) | ((with_reducible refine gate_callee (f := 18) rfl ?_); refine goesL_ (some 15) rfl rfl Try.func18 (by kernel_rfl) rfl #[.agg #[.int .i64 a0_0, .slice A0_1 l0_1.length c0_1], .agg #[.int .i64 a1_0, .slice A1_1 l1_1.length c1_1]] rfl (by (try simp only [List.map_toArray, List.map_cons, List.map_nil]); rfl) ?_; (with_reducible refine (spec_l03Like.calls k a0_0 _ _ l0_1 a1_0 _ _ l1_1 t248 _ ?side1 ?side2 ?side3 ?side4 A3.out).mono ?_); (case side1 => repeat (exact (Kd.C_below HR0_1.out HB.out))); (case side2 => exact HC0_1.out); (case side3 => repeat (exact (Kd.C_below HR1_1.out HB.out))); (case side4 => exact HC1_1.out); rintro e w78 ⟨rfl, hb⟩; refine ⟨_, rfl, ?_⟩; have n0_ := am (blk_below (g := gb245) (o := .cells #[.int .i64 a0_0, .slice A0_1 l0_1.length c0_1] 28 (0, 0)) (by exact BK245.out) hb); have n1_ := am (blk_below (g := gb246) (o := .cells #[.int .i64 a1_0, .slice A1_1 l1_1.length c1_1] 28 (0, 0)) (by exact BK246.out) hb); have n2_ := am (blk_below (g := gb247) (o := .cells #[.int .i64 0, .slice none 0 0] 28 (0, 0)) (by exact BK247.out) hb); have n3_ := am (below_step (by repeat ((with_reducible exact HB.out))) hb); clear BK245; clear BK246; clear BK247; clear HB; have BK245 := n0_; have BK246 := n1_; have BK247 := n2_; have HB := n3_; clear n0_ n1_ n2_ n3_; (try clear hb); (try clear hb2); (try clear hk); (try clear hi); have hcz79_0 : w78.cell? ⟨gb247, 0, none⟩ = some (.int .i64 0) := (blk_cell BK247.out 0).trans rfl; have hcz79_1 : w78.cell? ⟨gb247, 1, none⟩ = some (.slice none 0 0) := (blk_cell BK247.out 1).trans rfl; have hfz79_0 := blk_frozen BK247.out 0; have hfz79_1 := blk_frozen BK247.out 1))
   refine bodyPost_ret (results_ct rfl _ _ gb247 28 #[.int .i64 0, .slice none 0 0] (0, 0) _ rfl (by (with_reducible repeat (refine blk_drew ?_)); refine blk_put (cs := #[.int .i64 0, .slice none 0 0]) ?_ 1 _ rfl; (with_reducible repeat (refine blk_drew ?_)); refine blk_put (cs := #[.int .i64 0, .slice none 0 0]) ?_ 0 _ rfl; (with_reducible repeat (refine blk_drew ?_)); exact BK247.out) Try.underlying28 rfl (by kernel_rfl)) rfl ?_
   exact ⟨_, by rfl, Kd.V_nil _ _ _ _ _, by repeat ((with_reducible first | exact HB.out | refine below_set ?_ GE247.out))⟩
def laws_toInt64S.l0 : Nat → List Int → List Int → Int → Option (List Int)
 | 0, _, _, _ => none
 | k + 1, x0, x3, x4 => if x4 < (x0.length : Int) then (if 0 ≤ x4 then (if x4 < (x3.length : Int) then (laws_toInt64S.l0 k x0 (x3.set (x4 : Int).toNat (rd x0 x4)) (wrap64 (x4 + 1))) else (none)) else (none)) else (some x3)
def laws_toInt64S.f (k : Nat) (l0 : List Int) : Option (List Int) := if 0 ≤ (l0.length : Int) then (if ((l0.length : Int) : Int).toNat ≤ 35184372088832 then (laws_toInt64S.l0 k l0 (List.replicate ((l0.length : Int) : Int).toNat 0) 0) else (none)) else (none)
theorem laws_toInt64S.calls (k : Nat) (A0 : Option Addr) (c0 : Nat) (l0 : List Int) (r : List Int) (w : World) (hr0 : Kd.C (Kd.int .i64) w A0 l0.length l0) (hc0 : l0.length ≤ c0) (h : laws_toInt64S.f k l0 = some r) :
 Calls Try.prog 77 #[.slice A0 l0.length c0] w fun e w' => ∃ v0_ : Value, e = .returned (v0_) ∧ Kd.R (Kd.int .i64) 2 w' w.heap.size (fun _ => True) v0_ r ∧ Below w.heap.size w w' := by
 have HR0 := am hr0
 have HC0 := am hc0
 clear hr0 hc0
 have HB := am (Below.refl w.heap.size w)
 have H : (if 0 ≤ (l0.length : Int) then (if ((l0.length : Int) : Int).toNat ≤ 35184372088832 then (laws_toInt64S.l0 k l0 (List.replicate ((l0.length : Int) : Int).toNat 0) 0) else (none)) else (none)) = some r := h
 clear h
 by_cases c2 : 0 ≤ (l0.length : Int)
 · rw [if_pos c2] at H
   have c2b0 := eq_true c2
   have c2b1 : decide (0 ≤ (l0.length : Int)) = true := decide_eq_true c2
   clear c2
   by_cases c3 : ((l0.length : Int) : Int).toNat ≤ 35184372088832
   · rw [if_pos c3] at H
     have c3b0 := eq_true c3
     have c3b1 : decide (((l0.length : Int) : Int).toNat ≤ 35184372088832) = true := decide_eq_true c3
     clear c3
     obtain ⟨y271, hy271⟩ : ∃ y_ : List Int, y_ = (List.replicate ((l0.length : Int) : Int).toNat 0) := ⟨_, rfl⟩
     replace H : (laws_toInt64S.l0 k l0 y271 0) = some r := by (rw [hy271]; with_reducible exact H)
     have Ny271 := am hy271
     clear hy271
     have H' := am H
     clear H
     go_enter Try.func77, Try.ntmps77
     go_wp2_with (((with_reducible refine gate_dst (N := 7) rfl ?_); refine Kd.R_make (Kd.int .i64) _ 2 rfl (N := 7) rfl 50 _ _ rfl (l0.length : Int) rfl rfl Try.underlying50 (.int .i64 0) 8 info2 rfl (by decide) (by omega) 0 (ok := fun _ => True) (okp := fun _ => True) rfl (fun _ hk => hk) trivial (of_decide_eq_true (by (with_reducible assumption))) (Nat.le_trans (Nat.mul_le_mul_right _ (of_decide_eq_true (by (with_reducible assumption)) : (l0.length : Int).toNat ≤ 35184372088832)) (by omega)) (Below.refl _ _) (Nat.le_refl _) ?_; intro v272 w4 ho5 hb hg_ hnew_; clear hg_ hnew_; (rw [← Ny271.out] at ho5); have n0_ := am (Kd.R_lower ho5 (below_size (by repeat ((with_reducible exact HB.out))))); have n1_ := am (below_step (by repeat ((with_reducible exact HB.out))) hb); clear HB; have HO273 := n0_; have HB := n1_; clear n0_ n1_; clear hb ho5))
     go_loopg [4] k (fun kq v4 w' => ∃ (x3_1 : List Int) (x4_1 : Int), v4 = .int .i64 x4_1 ∧ Aside0 (laws_toInt64S.l0 kq l0 x3_1 x4_1 = some r) ∧ Aside0 (kq ≤ k) ∧ Aside0 (Kd.R (Kd.int .i64) 2 w' w.heap.size (fun _ => True) v272 x3_1) ∧ Aside0 (Below w.heap.size w w'))
     case atStart => exact ⟨(y271), (0), (by rfl), H', ⟨Nat.le_refl _⟩, ⟨by (with_reducible repeat (apply Kd.R_drew)); exact HO273.out⟩, ⟨by repeat ((with_reducible exact HB.out))⟩⟩
     case round =>
      clear H'
      try clear c2
      try clear c2b0
      try clear c2b1
      try clear p2
      try clear c3
      try clear c3b0
      try clear c3b1
      obtain ⟨x3_1, x4_1, rfl, HA, HK1, HO_3, HB⟩ := hrel
      cases gk with
      | zero => exact absurd HA.out (by simp [laws_toInt64S.l0])
      | succ k1 =>
       have H := HA.out
       clear HA
       simp only [laws_toInt64S.l0] at H
       by_cases c6 : x4_1 < (l0.length : Int)
       · rw [if_pos c6] at H
         have c6b0 : decide (x4_1 < (l0.length : Int)) = true := decide_eq_true c6
         clear c6
         by_cases c7 : 0 ≤ x4_1
         · rw [if_pos c7] at H
           have c7b0 : decide (0 ≤ x4_1) = true := decide_eq_true c7
           clear c7
           by_cases c8 : x4_1 < (x3_1.length : Int)
           · rw [if_pos c8] at H
             have c8b0 : decide (x4_1 < (x3_1.length : Int)) = true := decide_eq_true c8
             clear c8
             obtain ⟨y275, hy275⟩ : ∃ y_ : List Int, y_ = (x3_1.set (x4_1 : Int).toNat (rd l0 x4_1)) := ⟨_, rfl⟩
             replace H : (laws_toInt64S.l0 k1 l0 y275 (wrap64 (x4_1 + 1))) = some r := by (rw [hy275]; with_reducible exact H)
             have Ny275 := am hy275
             clear hy275
             have H' := am H
             clear H
             have p274 : 0 ≤ (x4_1 : Int) := of_decide_eq_true (by (with_reducible assumption))
             have q274 : x4_1 < (l0.length : Int) := of_decide_eq_true (by (with_reducible assumption))
             obtain ⟨ad274, e274, hx274_0⟩ := Kd.at_int HR0.out x4_1 p274 q274
             cases e274
             replace hx274_0 := (HB.out.cell (World.block_lt_of_cell? w _ hx274_0)).trans hx274_0
             replace p274 := eq_true p274
             replace q274 := eq_true q274
             have p9 : 0 ≤ (x4_1 : Int) := of_decide_eq_true (by (with_reducible assumption))
             have q9 : (x4_1 : Int) < ((x3_1.length : Int) : Int) := of_decide_eq_true (by (with_reducible assumption))
             obtain ⟨go9, co9, eo9, gb9, gl9, cl9, HG9⟩ := Kd.R_form HO_3.out (by omega)
             (cases eo9)
             have GB9 := am gb9
             have GG9 := am HG9
             clear gb9 gl9 HG9
             obtain ⟨hx9_0, hf9_0⟩ := Kd.R_celln 0 HO_3.out (x4_1 : Int) p9 q9
             replace p9 := eq_true p9
             replace q9 := eq_true q9
             have HP10 := Kd.R_putg HO_3.out (x4_1 : Int) (rd l0 x4_1)
             go_wp2_with (((with_reducible refine gate_store (t := 2) (p := 20) rfl ?_); refine store_event (t := 2) (p := 20) (v := ?vo_w11) (w1 := (wr.setCell ⟨go9, (x4_1 : Int).toNat, none⟩ (.int .i64 (rd l0 x4_1)))) ?hg ?ho ?hn ?hr ?_; (case ho => rfl); (case hg => rfl); (case hn => rfl); (case hr => (go_simp; done)); intro w11 hw; have hg : wr.grownBy w11 (some go9) := (by rw [hw]; exact HP10.2); have hp_ : Kd.R (Kd.int .i64) 2 w11 w.heap.size (fun _ => True) (.slice (some ⟨go9, 0, none⟩) x3_1.length co9) y275 := (by rw [hw, Ny275.out]; exact HP10.1); clear HP10; have n0_ := am (hp_); have n1_ := am ((by rw [hw]; exact below_set (HB.out) GB9.out : Below w.heap.size w w11)); clear HO_3; clear HB; have HO_3 := n0_; have HB := n1_; clear n0_ n1_; clear hg hw hp_))
             go_roundg k1
             case measure => have := HK1.out; omega
             case rel => exact ⟨(y275), (wrap64 (x4_1 + 1)), (by rfl), H', ⟨by have := HK1.out; omega⟩, ⟨by (with_reducible repeat (apply Kd.R_drew)); exact HO_3.out⟩, ⟨by repeat ((with_reducible exact HB.out))⟩⟩
           · rw [if_neg c8] at H
             exact absurd H (by simp)
         · rw [if_neg c7] at H
           exact absurd H (by simp)
       · rw [if_neg c6] at H
         have c6b0 : decide (x4_1 < (l0.length : Int)) = false := decide_eq_false c6
         clear c6
         obtain rfl := Option.some.inj H
         go_wp2
         go_ret
         exact ⟨_, by rfl, by (with_reducible repeat (apply Kd.R_drew)); exact HO_3.out, by repeat ((with_reducible exact HB.out))⟩
   · rw [if_neg c3] at H
     exact absurd H (by simp)
 · rw [if_neg c2] at H
   exact absurd H (by simp)
def laws_toTerm.f (k : Nat) (l0_0 : List Int) (a0_1 : Int) : Option (List Int × Int) := (laws_toInt64S.f k l0_0).bind fun t279 => (some (t279, a0_1))
theorem laws_toTerm.calls (k : Nat) (A0_0 : Option Addr) (c0_0 : Nat) (l0_0 : List Int) (a0_1 : Int) (r1 : List Int) (r2 : Int) (w : World) (hr0_0 : Kd.C (Kd.int .i64) w A0_0 l0_0.length l0_0) (hc0_0 : l0_0.length ≤ c0_0) (h : laws_toTerm.f k l0_0 a0_1 = some (r1, r2)) :
 Calls Try.prog 51 #[.agg #[.slice A0_0 l0_0.length c0_0, .int .i64 a0_1]] w fun e w' => ∃ v0_ : Value, e = .returned (.agg #[v0_, .int .i64 r2]) ∧ Kd.R (Kd.int .i64) 2 w' w.heap.size (fun _ => True) v0_ r1 ∧ Below w.heap.size w w' := by
 have hu64 := Try.underlying64
 have hu65 := Try.underlying65
 have HR0_0 := am hr0_0
 have HC0_0 := am hc0_0
 clear hr0_0 hc0_0
 have HB := am (Below.refl w.heap.size w)
 have H : ((laws_toInt64S.f k l0_0).bind fun t279 => (some (t279, a0_1))) = some (r1, r2) := h
 clear h
 replace H := Option.bind_eq_some_iff.mp H
 obtain ⟨t279, A20, H⟩ := H
 replace H : (some (t279, a0_1)) = some (r1, r2) := H
 have A2 := am A20
 clear A20
 simp only [Option.some.injEq, Prod.mk.injEq] at H
 obtain ⟨rfl, rfl⟩ := H
 go_enter Try.func51, Try.ntmps51
 go_wp2_with (first | ((with_reducible refine gate_dst (N := 1) rfl ?_); refine box_event ?hg (N := 1) ?hd (cs := #[.slice A0_0 l0_0.length c0_0, .int .i64 a0_1]) (t := 64) ?hr ?_; (case hd => rfl); (case hg => rfl); (case hr => (go_simp; done)); intro gb276 hg w3 hbox hb; have n0_ := am (below_step (by repeat ((with_reducible exact HB.out))) hb); have n1_ := am (hbox); have n2_ := am ((by rw [hg]; exact (below_size (by repeat ((with_reducible exact HB.out)))) : w.heap.size ≤ gb276)); have n3_ := am ((by rw [hg]; exact (below_size (by repeat ((with_reducible exact HB.out)))) : w.heap.size ≤ gb276)); clear HB; have HB := n0_; have BK276 := n1_; have GW276 := n2_; have GE276 := n3_; clear n0_ n1_ n2_ n3_; clear hb hbox hg) | ((with_reducible refine gate_dst (N := 2) rfl ?_); refine box_event ?hg (N := 2) ?hd (cs := #[.slice none 0 0, .int .i64 0]) (t := 65) ?hr ?_; (case hd => rfl); (case hg => rfl); (case hr => (go_simp; done)); intro gb277 hg w4 hbox hb; have n0_ := am (blk_below (g := gb276) (o := .cells #[.slice A0_0 l0_0.length c0_0, .int .i64 a0_1] 64 (0, 0)) (by exact BK276.out) hb); have n1_ := am (below_step (by repeat ((with_reducible exact HB.out))) hb); have n2_ := am (hbox); have n3_ := am ((by rw [hg]; exact (below_size (by repeat ((with_reducible exact HB.out)))) : w.heap.size ≤ gb277)); have n4_ := am ((by rw [hg]; exact (below_size (by repeat ((with_reducible exact HB.out)))) : w.heap.size ≤ gb277)); have n5_ := am ((by rw [hg]; exact Nat.ne_of_lt (blk_lt (g := gb276) (o := .cells #[.slice A0_0 l0_0.length c0_0, .int .i64 a0_1] 64 (0, 0)) (by exact BK276.out)) : gb276 ≠ gb277)); have n6_ := am ((by rw [hg]; exact Nat.ne_of_gt (blk_lt (g := gb276) (o := .cells #[.slice A0_0 l0_0.length c0_0, .int .i64 a0_1] 64 (0, 0)) (by exact BK276.out)) : gb277 ≠ gb276)); clear BK276; clear HB; have BK276 := n0_; have HB := n1_; have BK277 := n2_; have GW277 := n3_; have GE277 := n4_; have NB276_277 := n5_; have NB277_276 := n6_; clear n0_ n1_ n2_ n3_ n4_ n5_ n6_; clear hb hbox hg) | ((with_reducible refine gate_dst (N := 3) rfl ?_); refine box_event ?hg (N := 3) ?hd (cs := #[.slice none 0 0, .int .i64 0]) (t := 65) ?hr ?_; (case hd => rfl); (case hg => rfl); (case hr => (go_simp; done)); intro gb278 hg w5 hbox hb; have n0_ := am (blk_below (g := gb276) (o := .cells #[.slice A0_0 l0_0.length c0_0, .int .i64 a0_1] 64 (0, 0)) (by exact BK276.out) hb); have n1_ := am (blk_below (g := gb277) (o := .cells #[.slice none 0 0, .int .i64 0] 65 (0, 0)) (by exact BK277.out) hb); have n2_ := am (below_step (by repeat ((with_reducible exact HB.out))) hb); have n3_ := am (hbox); have n4_ := am ((by rw [hg]; exact (below_size (by repeat ((with_reducible exact HB.out)))) : w.heap.size ≤ gb278)); have n5_ := am ((by rw [hg]; exact (below_size (by repeat ((with_reducible exact HB.out)))) : w.heap.size ≤ gb278)); have n6_ := am ((by rw [hg]; exact Nat.ne_of_lt (blk_lt (g := gb276) (o := .cells #[.slice A0_0 l0_0.length c0_0, .int .i64 a0_1] 64 (0, 0)) (by exact BK276.out)) : gb276 ≠ gb278)); have n7_ := am ((by rw [hg]; exact Nat.ne_of_gt (blk_lt (g := gb276) (o := .cells #[.slice A0_0 l0_0.length c0_0, .int .i64 a0_1] 64 (0, 0)) (by exact BK276.out)) : gb278 ≠ gb276)); have n8_ := am ((by rw [hg]; exact Nat.ne_of_lt (blk_lt (g := gb277) (o := .cells #[.slice none 0 0, .int .i64 0] 65 (0, 0)) (by exact BK277.out)) : gb277 ≠ gb278)); have n9_ := am ((by rw [hg]; exact Nat.ne_of_gt (blk_lt (g := gb277) (o := .cells #[.slice none 0 0, .int .i64 0] 65 (0, 0)) (by exact BK277.out)) : gb278 ≠ gb277)); clear BK276; clear BK277; clear HB; have BK276 := n0_; have BK277 := n1_; have HB := n2_; have BK278 := n3_; have GW278 := n4_; have GE278 := n5_; have NB276_278 := n6_; have NB278_276 := n7_; have NB277_278 := n8_; have NB278_277 := n9_; clear n0_ n1_ n2_ n3_ n4_ n5_ n6_ n7_ n8_ n9_; clear hb hbox hg; have hnb6 := NB276_277.out; have hnc6 := NB277_276.out; have hnb7 := NB276_278.out; have hnc7 := NB278_276.out; have hcz8_0 : w5.cell? ⟨gb276, 0, none⟩ = some (.slice A0_0 l0_0.length c0_0) := (blk_cell BK276.out 0).trans rfl; have hcz8_1 : w5.cell? ⟨gb276, 1, none⟩ = some (.int .i64 a0_1) := (blk_cell BK276.out 1).trans rfl; have hfz8_0 := blk_frozen BK276.out 0; have hfz8_1 := blk_frozen BK276.out 1) | ((with_reducible refine gate_callee (f := 77) rfl ?_); refine goesL_ (some 6) rfl rfl Try.func77 (by kernel_rfl) rfl #[.slice A0_0 l0_0.length c0_0] rfl (by (try simp only [List.map_toArray, List.map_cons, List.map_nil]); rfl) ?_; (with_reducible refine (laws_toInt64S.calls k _ _ l0_0 t279 _ ?side1 ?side2 A2.out).mono ?_); (case side1 => repeat (exact (Kd.C_below HR0_0.out HB.out))); (case side2 => exact HC0_0.out); rintro e w9 ⟨v280, rfl, ho0, hb⟩; refine ⟨_, rfl, ?_⟩; have n0_ := am (Kd.R_lower ho0 (below_size (by repeat ((with_reducible exact HB.out))))); have n1_ := am (blk_below (g := gb276) (o := .cells #[.slice A0_0 l0_0.length c0_0, .int .i64 a0_1] 64 (0, 0)) (by exact BK276.out) hb); have n2_ := am (blk_below (g := gb277) (o := .cells #[.slice none 0 0, .int .i64 0] 65 (0, 0)) (by exact BK277.out) hb); have n3_ := am (blk_below (g := gb278) (o := .cells #[.slice none 0 0, .int .i64 0] 65 (0, 0)) (by exact BK278.out) hb); have n4_ := am (below_step (by repeat ((with_reducible exact HB.out))) hb); clear BK276; clear BK277; clear BK278; clear HB; have HO281 := n0_; have BK276 := n1_; have BK277 := n2_; have BK278 := n3_; have HB := n4_; clear n0_ n1_ n2_ n3_ n4_; (try clear hb); (try clear hb2); (try clear hk); (try clear hi); (try clear ho0); obtain ⟨Ao10, co10, eo10⟩ := Kd.R_slice HO281.out; subst eo10; have hnb11 := NB278_277.out; have hnc11 := NB277_278.out; have hcz12_0 : w9.cell? ⟨gb278, 0, none⟩ = some (.slice none 0 0) := (blk_cell BK278.out 0).trans rfl; have hcz12_1 : w9.cell? ⟨gb278, 1, none⟩ = some (.int .i64 0) := (blk_cell BK278.out 1).trans rfl; have hfz12_0 := blk_frozen BK278.out 0; have hfz12_1 := blk_frozen BK278.out 1; have hcz13_0 : w9.cell? ⟨gb276, 0, none⟩ = some (.slice A0_0 l0_0.length c0_0) := (blk_cell BK276.out 0).trans rfl; have hcz13_1 : w9.cell? ⟨gb276, 1, none⟩ = some (.int .i64 a0_1) := (blk_cell BK276.out 1).trans rfl; have hfz13_0 := blk_frozen BK276.out 0; have hfz13_1 := blk_frozen BK276.out 1; have hcz14_0 : w9.cell? ⟨gb277, 0, none⟩ = some (.slice none 0 0) := (blk_cell BK277.out 0).trans rfl; have hcz14_1 : w9.cell? ⟨gb277, 1, none⟩ = some (.int .i64 0) := (blk_cell BK277.out 1).trans rfl; have hfz14_0 := blk_frozen BK277.out 0; have hfz14_1 := blk_frozen BK277.out 1))
 refine bodyPost_ret (results_cell_row rfl _ _ gb277 65 #[.slice Ao10 t279.length co10, .int .i64 a0_1] (0, 0) _ rfl (by (with_reducible repeat (refine blk_drew ?_)); refine blk_put (cs := #[.slice Ao10 t279.length co10, .int .i64 0]) ?_ 1 _ rfl; (with_reducible repeat (refine blk_drew ?_)); refine blk_put (cs := #[.slice none 0 0, .int .i64 0]) ?_ 0 _ rfl; (with_reducible repeat (refine blk_drew ?_)); refine blk_far ?_ NB277_278.out _; (with_reducible repeat (refine blk_drew ?_)); refine blk_far ?_ NB277_278.out _; (with_reducible repeat (refine blk_drew ?_)); exact BK277.out) Try.underlying65 rfl (by kernel_rfl)) rfl ?_
 exact ⟨_, by rfl, by (with_reducible repeat (apply Kd.R_drew)); exact Kd.R_mono (Kd.R_far (p := ⟨gb277, 1, none⟩) (Kd.R_far (p := ⟨gb277, 0, none⟩) (Kd.R_far (p := ⟨gb278, 1, none⟩) (Kd.R_far (p := ⟨gb278, 0, none⟩) (Kd.R_types (Kd.R_types HO281.out BK278.out (by decide)) BK277.out (by decide)) (fun _ hk => hk.1.2) (.slice Ao10 t279.length co10)) (fun _ hk => hk.1.2) (.int .i64 a0_1)) (fun _ hk => hk.2) (.slice Ao10 t279.length co10)) (fun _ hk => hk.2) (.int .i64 a0_1)) (fun _ hk => trivial), by repeat ((with_reducible first | exact HB.out | refine below_set ?_ GE277.out | refine below_set ?_ GE278.out))⟩
def laws_toTermS.l0 : Nat → List (S64) → List (S65) → Int → Option ((List (S65)))
 | 0, _, _, _ => none
 | k + 1, x0, x3, x4 => if x4 < (x0.length : Int) then (if 0 ≤ x4 then ((laws_toTerm.f k ((rd_T64 x0 x4).f0) ((rd_T64 x0 x4).f1)).bind fun bt286 => (if x4 < (x3.length : Int) then (laws_toTermS.l0 k x0 (x3.set (x4 : Int).toNat (⟨bt286.1, bt286.2⟩ : S65)) (wrap64 (x4 + 1))) else (none))) else (none)) else (some x3)
def laws_toTermS.f (k : Nat) (l0 : List (S64)) : Option ((List (S65))) := if 0 ≤ (l0.length : Int) then (if ((l0.length : Int) : Int).toNat ≤ 8796093022208 then (laws_toTermS.l0 k l0 (List.replicate ((l0.length : Int) : Int).toNat z65) 0) else (none)) else (none)
theorem laws_toTermS.calls (k : Nat) (A0 : Option Addr) (c0 : Nat) (l0 : List (S64)) (r : List (S65)) (w : World) (hr0 : Kd.C k64 w A0 l0.length l0) (hc0 : l0.length ≤ c0) (h : laws_toTermS.f k l0 = some r) :
 Calls Try.prog 22 #[.slice A0 l0.length c0] w fun e w' => ∃ v0_ : Value, e = .returned (v0_) ∧ Kd.S k65 65 w' w.heap.size (fun _ => True) v0_ r ∧ Below w.heap.size w w' := by
 have hu64 := Try.underlying64
 have hu65 := Try.underlying65
 have HR0 := am hr0
 have HC0 := am hc0
 clear hr0 hc0
 have HB := am (Below.refl w.heap.size w)
 have H : (if 0 ≤ (l0.length : Int) then (if ((l0.length : Int) : Int).toNat ≤ 8796093022208 then (laws_toTermS.l0 k l0 (List.replicate ((l0.length : Int) : Int).toNat z65) 0) else (none)) else (none)) = some r := h
 clear h
 by_cases c2 : 0 ≤ (l0.length : Int)
 · rw [if_pos c2] at H
   have c2b0 := eq_true c2
   have c2b1 : decide (0 ≤ (l0.length : Int)) = true := decide_eq_true c2
   clear c2
   by_cases c3 : ((l0.length : Int) : Int).toNat ≤ 8796093022208
   · rw [if_pos c3] at H
     have c3b0 := eq_true c3
     have c3b1 : decide (((l0.length : Int) : Int).toNat ≤ 8796093022208) = true := decide_eq_true c3
     clear c3
     obtain ⟨y282, hy282⟩ : ∃ y_ : List (S65), y_ = (List.replicate ((l0.length : Int) : Int).toNat z65) := ⟨_, rfl⟩
     replace H : (laws_toTermS.l0 k l0 y282 0) = some r := by (rw [hy282]; with_reducible exact H)
     have Ny282 := am hy282
     clear hy282
     have H' := am H
     clear H
     go_enter Try.func22, Try.ntmps22
     go_wp2_with (((with_reducible refine gate_dst (N := 7) rfl ?_); refine Kd.S_make k65 _ 65 rfl (N := 7) rfl 26 _ _ rfl (l0.length : Int) rfl rfl Try.underlying26 (.agg #[(.slice none 0 0), (.int .i64 0)]) 32 info65 rfl (by decide) (by omega) z65 (ok := fun _ => True) (okp := fun _ => True) (k65_mkM _ _ _ z65 (Kd.R_nil _ _ _ _ _)) (fun _ hk => hk) trivial (of_decide_eq_true (by (with_reducible assumption))) (Nat.le_trans (Nat.mul_le_mul_right _ (of_decide_eq_true (by (with_reducible assumption)) : (l0.length : Int).toNat ≤ 8796093022208)) (by omega)) (Below.refl _ _) (Nat.le_refl _) ?_; intro v283 w4 ho5 hb hg_ hnew_; clear hg_ hnew_; (rw [← Ny282.out] at ho5); have n0_ := am (Kd.S_lower ho5 (below_size (by repeat ((with_reducible exact HB.out))))); have n1_ := am (below_step (by repeat ((with_reducible exact HB.out))) hb); clear HB; have HO284 := n0_; have HB := n1_; clear n0_ n1_; clear hb ho5))
     go_loopg [4] k (fun kq v4 w' => ∃ (x3_1 : List (S65)) (x4_1 : Int), v4 = .int .i64 x4_1 ∧ Aside0 (laws_toTermS.l0 kq l0 x3_1 x4_1 = some r) ∧ Aside0 (kq ≤ k) ∧ Aside0 (Kd.S k65 65 w' w.heap.size (fun _ => True) v283 x3_1) ∧ Aside0 (Below w.heap.size w w'))
     case atStart => exact ⟨(y282), (0), (by rfl), H', ⟨Nat.le_refl _⟩, ⟨by (with_reducible repeat (apply Kd.S_drew)); exact HO284.out⟩, ⟨by repeat ((with_reducible exact HB.out))⟩⟩
     case round =>
      clear H'
      try clear c2
      try clear c2b0
      try clear c2b1
      try clear p2
      try clear c3
      try clear c3b0
      try clear c3b1
      obtain ⟨x3_1, x4_1, rfl, HA, HK1, HO_3, HB⟩ := hrel
      cases gk with
      | zero => exact absurd HA.out (by simp [laws_toTermS.l0])
      | succ k1 =>
       have H := HA.out
       clear HA
       simp only [laws_toTermS.l0] at H
       by_cases c6 : x4_1 < (l0.length : Int)
       · rw [if_pos c6] at H
         have c6b0 : decide (x4_1 < (l0.length : Int)) = true := decide_eq_true c6
         clear c6
         by_cases c7 : 0 ≤ x4_1
         · rw [if_pos c7] at H
           have c7b0 : decide (0 ≤ x4_1) = true := decide_eq_true c7
           clear c7
           replace H := Option.bind_eq_some_iff.mp H
           obtain ⟨⟨t286, t289⟩, A80, H⟩ := H
           replace H : (if x4_1 < (x3_1.length : Int) then (laws_toTermS.l0 k1 l0 (x3_1.set (x4_1 : Int).toNat (⟨t286, t289⟩ : S65)) (wrap64 (x4_1 + 1))) else (none)) = some r := H
           have A8 := am A80
           clear A80
           by_cases c9 : x4_1 < (x3_1.length : Int)
           · rw [if_pos c9] at H
             have c9b0 : decide (x4_1 < (x3_1.length : Int)) = true := decide_eq_true c9
             clear c9
             obtain ⟨y290, hy290⟩ : ∃ y_ : List (S65), y_ = (x3_1.set (x4_1 : Int).toNat (⟨t286, t289⟩ : S65)) := ⟨_, rfl⟩
             replace H : (laws_toTermS.l0 k1 l0 y290 (wrap64 (x4_1 + 1))) = some r := by (rw [hy290]; with_reducible exact H)
             have Ny290 := am hy290
             clear hy290
             have H' := am H
             clear H
             have p285 : 0 ≤ (x4_1 : Int) := of_decide_eq_true (by (with_reducible assumption))
             have q285 : x4_1 < (l0.length : Int) := of_decide_eq_true (by (with_reducible assumption))
             obtain ⟨ad285, A285_0, c285_0, e285, hx285_0, hx285_1, hl285_0, hi285_0⟩ := at_T64 HR0.out x4_1 p285 q285
             cases e285
             replace hx285_0 := (HB.out.cell (World.block_lt_of_cell? w _ hx285_0)).trans hx285_0
             replace hx285_1 := (HB.out.cell (World.block_lt_of_cell? w _ hx285_1)).trans hx285_1
             have HR285_0 := am hi285_0
             have HC285_0 := am hl285_0
             clear hi285_0 hl285_0
             replace p285 := eq_true p285
             replace q285 := eq_true q285
             go_wp2_with (first | ((with_reducible refine gate_callee (f := 51) rfl ?_); refine goesL_ (some 20) rfl rfl Try.func51 (by kernel_rfl) rfl #[.agg #[.slice A285_0 ((rd_T64 l0 x4_1).f0).length c285_0, .int .i64 ((rd_T64 l0 x4_1).f1)]] rfl (by (try simp only [List.map_toArray, List.map_cons, List.map_nil]); rfl) ?_; (with_reducible refine (laws_toTerm.calls k1 _ _ ((rd_T64 l0 x4_1).f0) ((rd_T64 l0 x4_1).f1) t286 t289 _ ?side1 ?side2 A8.out).mono ?_); (case side1 => repeat (exact (Kd.C_below HR285_0.out HB.out))); (case side2 => exact HC285_0.out); rintro e w11 ⟨v287, rfl, ho0, hb⟩; refine ⟨_, rfl, ?_⟩; have n0_ := am (Kd.S_elder' (by (with_reducible repeat (apply Kd.S_drew)); exact HO_3.out) (Kd.R_base ho0) hb); have n1_ := am (Kd.R_lower ho0 (below_size (by repeat ((with_reducible exact HB.out))))); have n2_ := am (below_step (by repeat ((with_reducible exact HB.out))) hb); clear HO_3; clear HB; have HO_3 := n0_; have HO288 := n1_; have HB := n2_; clear n0_ n1_ n2_; (try clear hb); (try clear hb2); (try clear hk); (try clear hi); (try clear ho0); have p10 : 0 ≤ (x4_1 : Int) := of_decide_eq_true (by (with_reducible assumption)); have q10 : (x4_1 : Int) < ((x3_1.length : Int) : Int) := of_decide_eq_true (by (with_reducible assumption)); obtain ⟨go10, co10, eo10, gb10, gl10, cl10, HG10⟩ := Kd.S_form HO_3.out (by omega); (cases eo10); have GB10 := am gb10; have GG10 := am HG10; clear gb10 gl10 HG10; obtain ⟨_, ce10, hcl10, hM10, hcc10, hfr10, _, _⟩ := Kd.S_elem HO_3.out z65 (x4_1 : Int) p10 q10; obtain ⟨ve10_0, rfl, ge10_0⟩ := k65_openM hM10; have hx10_0 : w11.cell? ⟨go10, (x4_1 : Int).toNat * 2, none⟩ = some (ve10_0) := hcc10 0 _ rfl; have hx10_1 : w11.cell? ⟨go10, (x4_1 : Int).toNat * 2 + 1, none⟩ = some (.int .i64 ((rd_T65 x3_1 x4_1).f1)) := hcc10 1 _ rfl; have hf10_0 : w11.frozen? ⟨go10, (x4_1 : Int).toNat * 2, none⟩ = false := hfr10 0; have hf10_1 : w11.frozen? ⟨go10, (x4_1 : Int).toNat * 2 + 1, none⟩ = false := hfr10 1; clear hcl10 hcc10 hfr10 hM10; replace p10 := eq_true p10; replace q10 := eq_true q10; have n_ := am (Kd.S_mono (ok' := (fun k_ => some k_ ≠ (v287 : Value).ownBlock)) HO_3.out (fun k_ hk => hk.2)); clear HO_3; have HO_3 := n_; clear n_; have HX12 := am (show Kd.S k65 65 w11 w.heap.size (fun k_ => ((fun _ => True)) k_ ∧ ¬ ((fun k_ => some k_ = (v287 : Value).ownBlock)) k_) (.slice (some ⟨go10, 0, none⟩) x3_1.length co10) x3_1 from (by (with_reducible repeat (apply Kd.S_drew)); exact Kd.S_mono HO_3.out (fun k_ hk => ⟨trivial, fun e_ => hk e_⟩))); obtain ⟨oki12, ce12, hcl12, hM12, hcc12, hfr12, hoki12, hH12⟩ := Kd.S_elem HX12.out z65 (x4_1 : Int) (of_decide_eq_true (by (with_reducible assumption))) (by have h_ : (x4_1 : Int) < ((x3_1.length : Int) : Int) := of_decide_eq_true (by (with_reducible assumption)); exact h_); obtain ⟨ve12_0, rfl, ge12_0⟩ := k65_openM hM12; have HP12 := Kd.S_seg hH12 (of_decide_eq_true (by (with_reducible assumption))) (by have h_ : (x4_1 : Int) < ((x3_1.length : Int) : Int) := of_decide_eq_true (by (with_reducible assumption)); exact h_) (seg := [v287, .int .i64 t289]) (j := 0) (show 2 ≤ 2 from by decide) (x' := (⟨t286, t289⟩ : S65)) (k65_mkM _ _ _ (⟨t286, t289⟩ : S65) (Kd.R_mono (Kd.R_tight rfl (Kd.R_mono (ok' := fun k_ => ((fun _ => True)) k_ ∧ k_ ≠ go10) (Kd.R_apart' (HO288.out) (Kd.S_typed HO_3.out) (by decide)) (fun k_ hk => ⟨trivial, fun e_ => (hk.2) (by rw [e_]; rfl)⟩))) (fun _ h_ => Or.inr (h_)))) (fun _ hk => hk) (fun k_ hk_ => ((Kd.R_mono (ok' := fun k_ => ((fun _ => True)) k_ ∧ k_ ≠ go10) (Kd.R_apart' (HO288.out) (Kd.S_typed HO_3.out) (by decide)) (fun k_ hk => ⟨trivial, fun e_ => (hk.2) (by rw [e_]; rfl)⟩))).1 k_ hk_.symm); have hx12_0 := hcc12 0 _ rfl; (try simp only [show (k65).sz = 2 from rfl, Nat.mul_one, Nat.add_zero] at hx12_0); have hf12_0 := hfr12 0; (try simp only [show (k65).sz = 2 from rfl, Nat.mul_one, Nat.add_zero] at hf12_0); have hx12_1 := hcc12 1 _ rfl; (try simp only [show (k65).sz = 2 from rfl, Nat.mul_one, Nat.add_zero] at hx12_1); have hf12_1 := hfr12 1; (try simp only [show (k65).sz = 2 from rfl, Nat.mul_one, Nat.add_zero] at hf12_1); clear hcl12 hcc12 hfr12 hM12 hoki12 hH12) | ((with_reducible refine gate_store (t := 65) (p := 21) rfl ?_); refine store_event (t := 65) (p := 21) (v := ?vo_w13) (w1 := ((w11.setCell ⟨go10, (x4_1 : Int).toNat * 2, none⟩ (v287)).setCell ⟨go10, (x4_1 : Int).toNat * 2 + 1, none⟩ (.int .i64 t289))) ?hg ?ho ?hn ?hr ?_; (case ho => rfl); (case hg => rfl); (case hn => rfl); (case hr => (obtain ⟨_, _, ev0_⟩ := Kd.R_slice HO288.out; rw [ev0_]; go_simp; done)); intro w13 hw; have hg : w11.grownBy w13 (some go10) := (by rw [hw]; exact HP12.2); have hp_ : Kd.S k65 65 w13 w.heap.size (fun _ => True) (.slice (some ⟨go10, 0, none⟩) x3_1.length co10) y290 := (by rw [hw, Ny290.out]; exact HP12.1); clear HP12; have n0_ := am (hp_); have n1_ := am ((by rw [hw]; exact below_set (below_set (HB.out) GB10.out) GB10.out : Below w.heap.size w w13)); clear HO_3; clear HB; clear HO288; have HO_3 := n0_; have HB := n1_; clear n0_ n1_; clear hg hw hp_))
             go_roundg k1
             case measure => have := HK1.out; omega
             case rel => exact ⟨(y290), (wrap64 (x4_1 + 1)), (by rfl), H', ⟨by have := HK1.out; omega⟩, ⟨by (with_reducible repeat (apply Kd.S_drew)); exact HO_3.out⟩, ⟨by repeat ((with_reducible exact HB.out))⟩⟩
           · rw [if_neg c9] at H
             exact absurd H (by simp)
         · rw [if_neg c7] at H
           exact absurd H (by simp)
       · rw [if_neg c6] at H
         have c6b0 : decide (x4_1 < (l0.length : Int)) = false := decide_eq_false c6
         clear c6
         obtain rfl := Option.some.inj H
         go_wp2
         go_ret
         exact ⟨_, by rfl, by (with_reducible repeat (apply Kd.S_drew)); exact HO_3.out, by repeat ((with_reducible exact HB.out))⟩
   · rw [if_neg c3] at H
     exact absurd H (by simp)
 · rw [if_neg c2] at H
   exact absurd H (by simp)
def laws_toSum.f (k : Nat) (a0_0 : Int) (l0_1 : List (S64)) : Option (Int × (List (S65))) := (laws_toTermS.f k l0_1).bind fun t294 => (some (a0_0, t294))
theorem laws_toSum.calls (k : Nat) (a0_0 : Int) (A0_1 : Option Addr) (c0_1 : Nat) (l0_1 : List (S64)) (r1 : Int) (r2 : List (S65)) (w : World) (hr0_1 : Kd.C k64 w A0_1 l0_1.length l0_1) (hc0_1 : l0_1.length ≤ c0_1) (h : laws_toSum.f k a0_0 l0_1 = some (r1, r2)) :
 Calls Try.prog 8 #[.agg #[.int .i64 a0_0, .slice A0_1 l0_1.length c0_1]] w fun e w' => ∃ v1_ : Value, e = .returned (.agg #[.int .i64 r1, v1_]) ∧ Kd.S k65 65 w' w.heap.size (fun _ => True) v1_ r2 ∧ Below w.heap.size w w' := by
 have hu24 := Try.underlying24
 have hu28 := Try.underlying28
 have HR0_1 := am hr0_1
 have HC0_1 := am hc0_1
 clear hr0_1 hc0_1
 have HB := am (Below.refl w.heap.size w)
 have H : ((laws_toTermS.f k l0_1).bind fun t294 => (some (a0_0, t294))) = some (r1, r2) := h
 clear h
 replace H := Option.bind_eq_some_iff.mp H
 obtain ⟨t294, A20, H⟩ := H
 replace H : (some (a0_0, t294)) = some (r1, r2) := H
 have A2 := am A20
 clear A20
 simp only [Option.some.injEq, Prod.mk.injEq] at H
 obtain ⟨rfl, rfl⟩ := H
 go_enter Try.func8, Try.ntmps8
 go_wp2_with (first | ((with_reducible refine gate_dst (N := 1) rfl ?_); refine box_event ?hg (N := 1) ?hd (cs := #[.int .i64 a0_0, .slice A0_1 l0_1.length c0_1]) (t := 24) ?hr ?_; (case hd => rfl); (case hg => rfl); (case hr => (go_simp; done)); intro gb291 hg w3 hbox hb; have n0_ := am (below_step (by repeat ((with_reducible exact HB.out))) hb); have n1_ := am (hbox); have n2_ := am ((by rw [hg]; exact (below_size (by repeat ((with_reducible exact HB.out)))) : w.heap.size ≤ gb291)); have n3_ := am ((by rw [hg]; exact (below_size (by repeat ((with_reducible exact HB.out)))) : w.heap.size ≤ gb291)); clear HB; have HB := n0_; have BK291 := n1_; have GW291 := n2_; have GE291 := n3_; clear n0_ n1_ n2_ n3_; clear hb hbox hg) | ((with_reducible refine gate_dst (N := 2) rfl ?_); refine box_event ?hg (N := 2) ?hd (cs := #[.int .i64 0, .slice none 0 0]) (t := 28) ?hr ?_; (case hd => rfl); (case hg => rfl); (case hr => (go_simp; done)); intro gb292 hg w4 hbox hb; have n0_ := am (blk_below (g := gb291) (o := .cells #[.int .i64 a0_0, .slice A0_1 l0_1.length c0_1] 24 (0, 0)) (by exact BK291.out) hb); have n1_ := am (below_step (by repeat ((with_reducible exact HB.out))) hb); have n2_ := am (hbox); have n3_ := am ((by rw [hg]; exact (below_size (by repeat ((with_reducible exact HB.out)))) : w.heap.size ≤ gb292)); have n4_ := am ((by rw [hg]; exact (below_size (by repeat ((with_reducible exact HB.out)))) : w.heap.size ≤ gb292)); have n5_ := am ((by rw [hg]; exact Nat.ne_of_lt (blk_lt (g := gb291) (o := .cells #[.int .i64 a0_0, .slice A0_1 l0_1.length c0_1] 24 (0, 0)) (by exact BK291.out)) : gb291 ≠ gb292)); have n6_ := am ((by rw [hg]; exact Nat.ne_of_gt (blk_lt (g := gb291) (o := .cells #[.int .i64 a0_0, .slice A0_1 l0_1.length c0_1] 24 (0, 0)) (by exact BK291.out)) : gb292 ≠ gb291)); clear BK291; clear HB; have BK291 := n0_; have HB := n1_; have BK292 := n2_; have GW292 := n3_; have GE292 := n4_; have NB291_292 := n5_; have NB292_291 := n6_; clear n0_ n1_ n2_ n3_ n4_ n5_ n6_; clear hb hbox hg) | ((with_reducible refine gate_dst (N := 3) rfl ?_); refine box_event ?hg (N := 3) ?hd (cs := #[.int .i64 0, .slice none 0 0]) (t := 28) ?hr ?_; (case hd => rfl); (case hg => rfl); (case hr => (go_simp; done)); intro gb293 hg w5 hbox hb; have n0_ := am (blk_below (g := gb291) (o := .cells #[.int .i64 a0_0, .slice A0_1 l0_1.length c0_1] 24 (0, 0)) (by exact BK291.out) hb); have n1_ := am (blk_below (g := gb292) (o := .cells #[.int .i64 0, .slice none 0 0] 28 (0, 0)) (by exact BK292.out) hb); have n2_ := am (below_step (by repeat ((with_reducible exact HB.out))) hb); have n3_ := am (hbox); have n4_ := am ((by rw [hg]; exact (below_size (by repeat ((with_reducible exact HB.out)))) : w.heap.size ≤ gb293)); have n5_ := am ((by rw [hg]; exact (below_size (by repeat ((with_reducible exact HB.out)))) : w.heap.size ≤ gb293)); have n6_ := am ((by rw [hg]; exact Nat.ne_of_lt (blk_lt (g := gb291) (o := .cells #[.int .i64 a0_0, .slice A0_1 l0_1.length c0_1] 24 (0, 0)) (by exact BK291.out)) : gb291 ≠ gb293)); have n7_ := am ((by rw [hg]; exact Nat.ne_of_gt (blk_lt (g := gb291) (o := .cells #[.int .i64 a0_0, .slice A0_1 l0_1.length c0_1] 24 (0, 0)) (by exact BK291.out)) : gb293 ≠ gb291)); have n8_ := am ((by rw [hg]; exact Nat.ne_of_lt (blk_lt (g := gb292) (o := .cells #[.int .i64 0, .slice none 0 0] 28 (0, 0)) (by exact BK292.out)) : gb292 ≠ gb293)); have n9_ := am ((by rw [hg]; exact Nat.ne_of_gt (blk_lt (g := gb292) (o := .cells #[.int .i64 0, .slice none 0 0] 28 (0, 0)) (by exact BK292.out)) : gb293 ≠ gb292)); clear BK291; clear BK292; clear HB; have BK291 := n0_; have BK292 := n1_; have HB := n2_; have BK293 := n3_; have GW293 := n4_; have GE293 := n5_; have NB291_293 := n6_; have NB293_291 := n7_; have NB292_293 := n8_; have NB293_292 := n9_; clear n0_ n1_ n2_ n3_ n4_ n5_ n6_ n7_ n8_ n9_; clear hb hbox hg; have hnb6 := NB291_292.out; have hnc6 := NB292_291.out; have hnb7 := NB291_293.out; have hnc7 := NB293_291.out; have hcz8_0 : w5.cell? ⟨gb291, 0, none⟩ = some (.int .i64 a0_0) := (blk_cell BK291.out 0).trans rfl; have hcz8_1 : w5.cell? ⟨gb291, 1, none⟩ = some (.slice A0_1 l0_1.length c0_1) := (blk_cell BK291.out 1).trans rfl; have hfz8_0 := blk_frozen BK291.out 0; have hfz8_1 := blk_frozen BK291.out 1; have hnb9 := NB293_292.out; have hnc9 := NB292_293.out; have hcz10_0 : w5.cell? ⟨gb293, 0, none⟩ = some (.int .i64 0) := (blk_cell BK293.out 0).trans rfl; have hcz10_1 : w5.cell? ⟨gb293, 1, none⟩ = some (.slice none 0 0) := (blk_cell BK293.out 1).trans rfl; have hfz10_0 := blk_frozen BK293.out 0; have hfz10_1 := blk_frozen BK293.out 1) | ((with_reducible refine gate_callee (f := 22) rfl ?_); refine goesL_ (some 9) rfl rfl Try.func22 (by kernel_rfl) rfl #[.slice A0_1 l0_1.length c0_1] rfl (by (try simp only [List.map_toArray, List.map_cons, List.map_nil]); rfl) ?_; (with_reducible refine (laws_toTermS.calls k _ _ l0_1 t294 _ ?side1 ?side2 A2.out).mono ?_); (case side1 => exact Kd.C_below HR0_1.out (by repeat ((with_reducible first | exact HB.out | refine below_set ?_ GE293.out)))); (case side2 => exact HC0_1.out); rintro e w11 ⟨v295, rfl, ho0, hb⟩; refine ⟨_, rfl, ?_⟩; have n0_ := am (Kd.S_lower ho0 (below_size (by repeat ((with_reducible first | exact HB.out | refine below_set ?_ GE293.out))))); have n1_ := am (blk_below (g := gb291) (o := .cells #[.int .i64 a0_0, .slice A0_1 l0_1.length c0_1] 24 (0, 0)) (by (with_reducible repeat (refine blk_drew ?_)); refine blk_far ?_ NB291_293.out _; (with_reducible repeat (refine blk_drew ?_)); exact BK291.out) hb); have n2_ := am (blk_below (g := gb292) (o := .cells #[.int .i64 0, .slice none 0 0] 28 (0, 0)) (by (with_reducible repeat (refine blk_drew ?_)); refine blk_far ?_ NB292_293.out _; (with_reducible repeat (refine blk_drew ?_)); exact BK292.out) hb); have n3_ := am (blk_below (g := gb293) (o := .cells #[.int .i64 a0_0, .slice none 0 0] 28 (0, 0)) (by (with_reducible repeat (refine blk_drew ?_)); refine blk_put (cs := #[.int .i64 0, .slice none 0 0]) ?_ 0 _ rfl; (with_reducible repeat (refine blk_drew ?_)); exact BK293.out) hb); have n4_ := am (below_step (by repeat ((with_reducible first | exact HB.out | refine below_set ?_ GE293.out))) hb); clear BK291; clear BK292; clear BK293; clear HB; have HO296 := n0_; have BK291 := n1_; have BK292 := n2_; have BK293 := n3_; have HB := n4_; clear n0_ n1_ n2_ n3_ n4_; (try clear hb); (try clear hb2); (try clear hk); (try clear hi); (try clear ho0); obtain ⟨Ao12, co12, eo12⟩ := Kd.S_slice HO296.out; subst eo12; have hcz13_0 : w11.cell? ⟨gb293, 0, none⟩ = some (.int .i64 a0_0) := (blk_cell BK293.out 0).trans rfl; have hcz13_1 : w11.cell? ⟨gb293, 1, none⟩ = some (.slice none 0 0) := (blk_cell BK293.out 1).trans rfl; have hfz13_0 := blk_frozen BK293.out 0; have hfz13_1 := blk_frozen BK293.out 1; have hcz14_0 : w11.cell? ⟨gb292, 0, none⟩ = some (.int .i64 0) := (blk_cell BK292.out 0).trans rfl; have hcz14_1 : w11.cell? ⟨gb292, 1, none⟩ = some (.slice none 0 0) := (blk_cell BK292.out 1).trans rfl; have hfz14_0 := blk_frozen BK292.out 0; have hfz14_1 := blk_frozen BK292.out 1))
 refine bodyPost_ret (results_cell_row rfl _ _ gb292 28 #[.int .i64 a0_0, .slice Ao12 t294.length co12] (0, 0) _ rfl (by (with_reducible repeat (refine blk_drew ?_)); refine blk_put (cs := #[.int .i64 a0_0, .slice none 0 0]) ?_ 1 _ rfl; (with_reducible repeat (refine blk_drew ?_)); refine blk_put (cs := #[.int .i64 0, .slice none 0 0]) ?_ 0 _ rfl; (with_reducible repeat (refine blk_drew ?_)); refine blk_far ?_ NB292_293.out _; (with_reducible repeat (refine blk_drew ?_)); exact BK292.out) Try.underlying28 rfl (by kernel_rfl)) rfl ?_
 exact ⟨_, by rfl, by (with_reducible repeat (apply Kd.S_drew)); exact Kd.S_mono (Kd.S_far (p := ⟨gb292, 1, none⟩) (Kd.S_far (p := ⟨gb292, 0, none⟩) (Kd.S_far (p := ⟨gb293, 1, none⟩) (Kd.S_types (Kd.S_types HO296.out BK293.out (by decide)) BK292.out (by decide)) (fun _ hk => hk.1.2) (.slice Ao12 t294.length co12)) (fun _ hk => hk.2) (.int .i64 a0_0)) (fun _ hk => hk.2) (.slice Ao12 t294.length co12)) (fun _ hk => trivial), by repeat ((with_reducible first | exact HB.out | refine below_set ?_ GE292.out | refine below_set ?_ GE293.out))⟩
def impl_chords.f (l0 : List Int) : Option (Int) := some (wrap64 ((l0.length : Int) / 2))
theorem impl_chords.calls (A0 : Option Addr) (c0 : Nat) (l0 : List Int) (r : Int) (w : World) (hr0 : Kd.C (Kd.int .i64) w A0 l0.length l0) (hc0 : l0.length ≤ c0) (h : impl_chords.f l0 = some r) :
 Calls Try.prog 60 #[.slice A0 l0.length c0] w fun e w' => e = .returned (.int .i64 r) ∧ Drawn0 w w' := by
 have HR0 := am hr0
 have HC0 := am hc0
 clear hr0 hc0
 have H : (some (wrap64 ((l0.length : Int) / 2))) = some r := h
 clear h
 obtain rfl := Option.some.inj H
 go_enter Try.func60, Try.ntmps60
 go_wp2
 go_ret
 exact ⟨by rfl, by repeat (exact Drawn0.refl _)⟩
def impl_rest.f (a0 : Int) (a1 : Int) : Option (Int) := if a1 = 0 then (none) else (some (Int.tmod (wrap64 ((Int.tmod a0 a1) + a1)) a1))
theorem impl_rest.calls (a0 : Int) (a1 : Int) (r : Int) (w : World) (h : impl_rest.f a0 a1 = some r) :
 Calls Try.prog 86 #[.int .i64 a0, .int .i64 a1] w fun e w' => e = .returned (.int .i64 r) ∧ Drawn0 w w' := by
 have H : (if a1 = 0 then (none) else (some (Int.tmod (wrap64 ((Int.tmod a0 a1) + a1)) a1))) = some r := h
 clear h
 by_cases c3 : a1 = 0
 · rw [if_pos c3] at H
   exact absurd H (by simp)
 · rw [if_neg c3] at H
   have c3b0 : (a1 == 0) = false := beq_eq_false_iff_ne.mpr c3
   have c3b1 : (a1 != 0) = true := bne_iff_ne.mpr c3
   obtain rfl := Option.some.inj H
   go_enter Try.func86, Try.ntmps86
   go_wp2
   go_ret
   exact ⟨by rfl, by repeat (exact Drawn0.refl _)⟩
end Go.Proofs.Ytgcgeoglhebonaa.P
end
section
namespace Go.Proofs.Ytgcgeoglhebonaa.P
open Go.RowKit Go.Proofs.YtgcgeoglhebonaaW.PrintWords Go.Proofs.YtgcgeoglhebonaaW.PrintLast Go.Proofs.YtgcgeoglhebonaaW.PrintMore
attribute [local go_sem] max2_int min2_int max_two min_two max_three min_three max_four min_four   -- for this text's walks alone
set_option linter.unusedVariables false
set_option linter.unusedSimpArgs false
def laws_eqInt64S.l0 : Nat → List Int → List Int → Int → Option (Bool)
 | 0, _, _, _ => none
 | k + 1, x0, x1, x5 => if x5 < (x0.length : Int) then (if 0 ≤ x5 then (if x5 < (x1.length : Int) then (if (rd x0 x5) = (rd x1 x5) then (laws_eqInt64S.l0 k x0 x1 (wrap64 (x5 + 1))) else (some false)) else (none)) else (none)) else (some true)
def laws_eqInt64S.f (k : Nat) (l0 : List Int) (l1 : List Int) : Option (Bool) := if (l0.length : Int) = (l1.length : Int) then (laws_eqInt64S.l0 k l0 l1 0) else (some false)
theorem laws_eqInt64S.calls (k : Nat) (A0 : Option Addr) (c0 : Nat) (l0 : List Int) (A1 : Option Addr) (c1 : Nat) (l1 : List Int) (r : Bool) (w : World) (hr0 : Kd.C (Kd.int .i64) w A0 l0.length l0) (hc0 : l0.length ≤ c0) (hr1 : Kd.C (Kd.int .i64) w A1 l1.length l1) (hc1 : l1.length ≤ c1) (h : laws_eqInt64S.f k l0 l1 = some r) :
 Calls Try.prog 87 #[.slice A0 l0.length c0, .slice A1 l1.length c1] w fun e w' => e = .returned (.bool r) ∧ Drawn0 w w' := by
 have HR0 := am hr0
 have HC0 := am hc0
 clear hr0 hc0
 have HR1 := am hr1
 have HC1 := am hc1
 clear hr1 hc1
 have H : (if (l0.length : Int) = (l1.length : Int) then (laws_eqInt64S.l0 k l0 l1 0) else (some false)) = some r := h
 clear h
 by_cases c3 : (l0.length : Int) = (l1.length : Int)
 · rw [if_pos c3] at H
   have c3b0 : ((l0.length : Int) == (l1.length : Int)) = true := beq_iff_eq.mpr c3
   have c3b1 : ((l0.length : Int) != (l1.length : Int)) = false := bne_eq_false_iff_eq.mpr c3
   have c3b2 : (l0.length == l1.length) = true := by (simp at c3 ⊢; omega)
   clear c3
   have H' := am H
   clear H
   go_enter Try.func87, Try.ntmps87
   go_wp2
   repeat (go_quiet (fail); try go_wp2)
   go_loopg [5] k (fun kq v5 w' => ∃ (x5_1 : Int), v5 = .int .i64 x5_1 ∧ Aside0 (laws_eqInt64S.l0 kq l0 l1 x5_1 = some r) ∧ Aside0 (kq ≤ k) ∧ Drawn0 w w')
   case atStart => exact ⟨(0), (by rfl), H', ⟨Nat.le_refl _⟩, by repeat (exact Drawn0.refl _)⟩
   case round =>
    clear H'
    try clear c1
    try clear p2
    try clear c3
    try clear c3b0
    try clear c3b1
    try clear c3b2
    obtain ⟨x5_1, rfl, HA, HK1, ⟨m1, rfl⟩⟩ := hrel
    cases gk with
    | zero => exact absurd HA.out (by simp [laws_eqInt64S.l0])
    | succ k1 =>
     have H := HA.out
     clear HA
     simp only [laws_eqInt64S.l0] at H
     by_cases c4 : x5_1 < (l0.length : Int)
     · rw [if_pos c4] at H
       have c4b0 : decide (x5_1 < (l0.length : Int)) = true := decide_eq_true c4
       clear c4
       by_cases c5 : 0 ≤ x5_1
       · rw [if_pos c5] at H
         have c5b0 : decide (0 ≤ x5_1) = true := decide_eq_true c5
         clear c5
         by_cases c6 : x5_1 < (l1.length : Int)
         · rw [if_pos c6] at H
           have c6b0 : decide (x5_1 < (l1.length : Int)) = true := decide_eq_true c6
           clear c6
           by_cases c7 : (rd l0 x5_1) = (rd l1 x5_1)
           · rw [if_pos c7] at H
             have c7b0 : ((rd l0 x5_1) == (rd l1 x5_1)) = true := beq_iff_eq.mpr c7
             have c7b1 : ((rd l0 x5_1) != (rd l1 x5_1)) = false := bne_eq_false_iff_eq.mpr c7
             clear c7
             have H' := am H
             clear H
             have p325 : 0 ≤ (x5_1 : Int) := of_decide_eq_true (by (with_reducible assumption))
             have q325 : x5_1 < (l0.length : Int) := of_decide_eq_true (by (with_reducible assumption))
             obtain ⟨ad325, e325, hx325_0⟩ := Kd.at_int HR0.out x5_1 p325 q325
             cases e325
             replace p325 := eq_true p325
             replace q325 := eq_true q325
             have p326 : 0 ≤ (x5_1 : Int) := of_decide_eq_true (by (with_reducible assumption))
             have q326 : x5_1 < (l1.length : Int) := of_decide_eq_true (by (with_reducible assumption))
             obtain ⟨ad326, e326, hx326_0⟩ := Kd.at_int HR1.out x5_1 p326 q326
             cases e326
             replace p326 := eq_true p326
             replace q326 := eq_true q326
             go_wp2
             repeat (go_quiet (fail); try go_wp2)
             go_roundg k1
             case measure => have := HK1.out; omega
             case rel => exact ⟨(wrap64 (x5_1 + 1)), (by rfl), H', ⟨by have := HK1.out; omega⟩, by repeat (first | exact Drawn0.refl _ | apply Drawn0.step)⟩
           · rw [if_neg c7] at H
             have c7b0 : ((rd l0 x5_1) == (rd l1 x5_1)) = false := beq_eq_false_iff_ne.mpr c7
             have c7b1 : ((rd l0 x5_1) != (rd l1 x5_1)) = true := bne_iff_ne.mpr c7
             obtain rfl := Option.some.inj H
             have p325 : 0 ≤ (x5_1 : Int) := of_decide_eq_true (by (with_reducible assumption))
             have q325 : x5_1 < (l0.length : Int) := of_decide_eq_true (by (with_reducible assumption))
             obtain ⟨ad325, e325, hx325_0⟩ := Kd.at_int HR0.out x5_1 p325 q325
             cases e325
             replace p325 := eq_true p325
             replace q325 := eq_true q325
             have p326 : 0 ≤ (x5_1 : Int) := of_decide_eq_true (by (with_reducible assumption))
             have q326 : x5_1 < (l1.length : Int) := of_decide_eq_true (by (with_reducible assumption))
             obtain ⟨ad326, e326, hx326_0⟩ := Kd.at_int HR1.out x5_1 p326 q326
             cases e326
             replace p326 := eq_true p326
             replace q326 := eq_true q326
             go_wp2
             repeat (go_quiet (fail); try go_wp2)
             go_ret
             exact ⟨by rfl, by repeat (first | exact Drawn0.refl _ | apply Drawn0.step)⟩
         · rw [if_neg c6] at H
           exact absurd H (by simp)
       · rw [if_neg c5] at H
         exact absurd H (by simp)
     · rw [if_neg c4] at H
       have c4b0 : decide (x5_1 < (l0.length : Int)) = false := decide_eq_false c4
       clear c4
       obtain rfl := Option.some.inj H
       go_wp2
       repeat (go_quiet (fail); try go_wp2)
       go_ret
       exact ⟨by rfl, by repeat (first | exact Drawn0.refl _ | apply Drawn0.step)⟩
 · rw [if_neg c3] at H
   have c3b0 : ((l0.length : Int) == (l1.length : Int)) = false := beq_eq_false_iff_ne.mpr c3
   have c3b1 : ((l0.length : Int) != (l1.length : Int)) = true := bne_iff_ne.mpr c3
   have c3b2 : (l0.length == l1.length) = false := by (simp at c3 ⊢; omega)
   obtain rfl := Option.some.inj H
   go_enter Try.func87, Try.ntmps87
   go_wp2
   repeat (go_quiet (fail); try go_wp2)
   go_ret
   exact ⟨by rfl, by repeat (exact Drawn0.refl _)⟩
def laws_eqTerm.f (k : Nat) (l0_0 : List Int) (a0_1 : Int) (l1_0 : List Int) (a1_1 : Int) : Option (Bool) := (laws_eqInt64S.f k l0_0 l1_0).bind fun t329 => (if t329 = true then (if a0_1 = a1_1 then (some true) else (some false)) else (some false))
theorem laws_eqTerm.calls (k : Nat) (A0_0 : Option Addr) (c0_0 : Nat) (l0_0 : List Int) (a0_1 : Int) (A1_0 : Option Addr) (c1_0 : Nat) (l1_0 : List Int) (a1_1 : Int) (r : Bool) (w : World) (hr0_0 : Kd.C (Kd.int .i64) w A0_0 l0_0.length l0_0) (hc0_0 : l0_0.length ≤ c0_0) (hr1_0 : Kd.C (Kd.int .i64) w A1_0 l1_0.length l1_0) (hc1_0 : l1_0.length ≤ c1_0) (h : laws_eqTerm.f k l0_0 a0_1 l1_0 a1_1 = some r) :
 Calls Try.prog 63 #[.agg #[.slice A0_0 l0_0.length c0_0, .int .i64 a0_1], .agg #[.slice A1_0 l1_0.length c1_0, .int .i64 a1_1]] w fun e w' => e = .returned (.bool r) ∧ Below w.heap.size w w' := by
 have hu65 := Try.underlying65
 have HR0_0 := am hr0_0
 have HC0_0 := am hc0_0
 clear hr0_0 hc0_0
 have HR1_0 := am hr1_0
 have HC1_0 := am hc1_0
 clear hr1_0 hc1_0
 have HB := am (Below.refl w.heap.size w)
 have H : ((laws_eqInt64S.f k l0_0 l1_0).bind fun t329 => (if t329 = true then (if a0_1 = a1_1 then (some true) else (some false)) else (some false))) = some r := h
 clear h
 replace H := Option.bind_eq_some_iff.mp H
 obtain ⟨t329, A30, H⟩ := H
 replace H : (if t329 = true then (if a0_1 = a1_1 then (some true) else (some false)) else (some false)) = some r := H
 have A3 := am A30
 clear A30
 by_cases c4 : t329 = true
 · subst c4
   have H1 : (if a0_1 = a1_1 then (some true) else (some false)) = some r := by rw [if_pos rfl] at H; exact H
   clear H
   have H := H1
   clear H1
   by_cases c5 : a0_1 = a1_1
   · rw [if_pos c5] at H
     have c5b0 : (a0_1 == a1_1) = true := beq_iff_eq.mpr c5
     have c5b1 : (a0_1 != a1_1) = false := bne_eq_false_iff_eq.mpr c5
     clear c5
     obtain rfl := Option.some.inj H
     go_enter Try.func63, Try.ntmps63
     go_wp2_with (first | ((with_reducible refine gate_dst (N := 2) rfl ?_); refine box_event ?hg (N := 2) ?hd (cs := #[.slice A0_0 l0_0.length c0_0, .int .i64 a0_1]) (t := 65) ?hr ?_; (case hd => rfl); (case hg => rfl); (case hr => (go_simp; done)); intro gb327 hg w6 hbox hb; have n0_ := am (below_step (by repeat ((with_reducible exact HB.out))) hb); have n1_ := am (hbox); have n2_ := am ((by rw [hg]; exact (below_size (by repeat ((with_reducible exact HB.out)))) : w.heap.size ≤ gb327)); have n3_ := am ((by rw [hg]; exact (below_size (by repeat ((with_reducible exact HB.out)))) : w.heap.size ≤ gb327)); clear HB; have HB := n0_; have BK327 := n1_; have GW327 := n2_; have GE327 := n3_; clear n0_ n1_ n2_ n3_; clear hb hbox hg) | ((with_reducible refine gate_dst (N := 3) rfl ?_); refine box_event ?hg (N := 3) ?hd (cs := #[.slice A1_0 l1_0.length c1_0, .int .i64 a1_1]) (t := 65) ?hr ?_; (case hd => rfl); (case hg => rfl); (case hr => (go_simp; done)); intro gb328 hg w7 hbox hb; have n0_ := am (blk_below (g := gb327) (o := .cells #[.slice A0_0 l0_0.length c0_0, .int .i64 a0_1] 65 (0, 0)) (by exact BK327.out) hb); have n1_ := am (below_step (by repeat ((with_reducible exact HB.out))) hb); have n2_ := am (hbox); have n3_ := am ((by rw [hg]; exact (below_size (by repeat ((with_reducible exact HB.out)))) : w.heap.size ≤ gb328)); have n4_ := am ((by rw [hg]; exact (below_size (by repeat ((with_reducible exact HB.out)))) : w.heap.size ≤ gb328)); have n5_ := am ((by rw [hg]; exact Nat.ne_of_lt (blk_lt (g := gb327) (o := .cells #[.slice A0_0 l0_0.length c0_0, .int .i64 a0_1] 65 (0, 0)) (by exact BK327.out)) : gb327 ≠ gb328)); have n6_ := am ((by rw [hg]; exact Nat.ne_of_gt (blk_lt (g := gb327) (o := .cells #[.slice A0_0 l0_0.length c0_0, .int .i64 a0_1] 65 (0, 0)) (by exact BK327.out)) : gb328 ≠ gb327)); clear BK327; clear HB; have BK327 := n0_; have HB := n1_; have BK328 := n2_; have GW328 := n3_; have GE328 := n4_; have NB327_328 := n5_; have NB328_327 := n6_; clear n0_ n1_ n2_ n3_ n4_ n5_ n6_; clear hb hbox hg; have hnb8 := NB327_328.out; have hnc8 := NB328_327.out; have hcz9_0 : w7.cell? ⟨gb327, 0, none⟩ = some (.slice A0_0 l0_0.length c0_0) := (blk_cell BK327.out 0).trans rfl; have hcz9_1 : w7.cell? ⟨gb327, 1, none⟩ = some (.int .i64 a0_1) := (blk_cell BK327.out 1).trans rfl; have hfz9_0 := blk_frozen BK327.out 0; have hfz9_1 := blk_frozen BK327.out 1; have hcz10_0 : w7.cell? ⟨gb328, 0, none⟩ = some (.slice A1_0 l1_0.length c1_0) := (blk_cell BK328.out 0).trans rfl; have hcz10_1 : w7.cell? ⟨gb328, 1, none⟩ = some (.int .i64 a1_1) := (blk_cell BK328.out 1).trans rfl; have hfz10_0 := blk_frozen BK328.out 0; have hfz10_1 := blk_frozen BK328.out 1) | ((with_reducible refine gate_callee (f := 87) rfl ?_); refine goesL_ (some 9) rfl rfl Try.func87 (by kernel_rfl) rfl #[.slice A0_0 l0_0.length c0_0, .slice A1_0 l1_0.length c1_0] rfl (by (try simp only [List.map_toArray, List.map_cons, List.map_nil]); rfl) ?_; (with_reducible refine (laws_eqInt64S.calls k _ _ l0_0 _ _ l1_0 true _ ?side1 ?side2 ?side3 ?side4 A3.out).mono ?_); (case side1 => repeat (exact (Kd.C_below HR0_0.out HB.out))); (case side2 => exact HC0_0.out); (case side3 => repeat (exact (Kd.C_below HR1_0.out HB.out))); (case side4 => exact HC1_0.out); rintro e w' ⟨rfl, ⟨nd, rfl⟩⟩; refine ⟨_, rfl, ?_⟩))
     go_ret
     exact ⟨by rfl, by repeat ((with_reducible first | exact HB.out | apply pw_below_drewN))⟩
   · rw [if_neg c5] at H
     have c5b0 : (a0_1 == a1_1) = false := beq_eq_false_iff_ne.mpr c5
     have c5b1 : (a0_1 != a1_1) = true := bne_iff_ne.mpr c5
     obtain rfl := Option.some.inj H
     go_enter Try.func63, Try.ntmps63
     go_wp2_with (first | ((with_reducible refine gate_dst (N := 2) rfl ?_); refine box_event ?hg (N := 2) ?hd (cs := #[.slice A0_0 l0_0.length c0_0, .int .i64 a0_1]) (t := 65) ?hr ?_; (case hd => rfl); (case hg => rfl); (case hr => (go_simp; done)); intro gb327 hg w11 hbox hb; have n0_ := am (below_step (by repeat ((with_reducible exact HB.out))) hb); have n1_ := am (hbox); have n2_ := am ((by rw [hg]; exact (below_size (by repeat ((with_reducible exact HB.out)))) : w.heap.size ≤ gb327)); have n3_ := am ((by rw [hg]; exact (below_size (by repeat ((with_reducible exact HB.out)))) : w.heap.size ≤ gb327)); clear HB; have HB := n0_; have BK327 := n1_; have GW327 := n2_; have GE327 := n3_; clear n0_ n1_ n2_ n3_; clear hb hbox hg) | ((with_reducible refine gate_dst (N := 3) rfl ?_); refine box_event ?hg (N := 3) ?hd (cs := #[.slice A1_0 l1_0.length c1_0, .int .i64 a1_1]) (t := 65) ?hr ?_; (case hd => rfl); (case hg => rfl); (case hr => (go_simp; done)); intro gb328 hg w12 hbox hb; have n0_ := am (blk_below (g := gb327) (o := .cells #[.slice A0_0 l0_0.length c0_0, .int .i64 a0_1] 65 (0, 0)) (by exact BK327.out) hb); have n1_ := am (below_step (by repeat ((with_reducible exact HB.out))) hb); have n2_ := am (hbox); have n3_ := am ((by rw [hg]; exact (below_size (by repeat ((with_reducible exact HB.out)))) : w.heap.size ≤ gb328)); have n4_ := am ((by rw [hg]; exact (below_size (by repeat ((with_reducible exact HB.out)))) : w.heap.size ≤ gb328)); have n5_ := am ((by rw [hg]; exact Nat.ne_of_lt (blk_lt (g := gb327) (o := .cells #[.slice A0_0 l0_0.length c0_0, .int .i64 a0_1] 65 (0, 0)) (by exact BK327.out)) : gb327 ≠ gb328)); have n6_ := am ((by rw [hg]; exact Nat.ne_of_gt (blk_lt (g := gb327) (o := .cells #[.slice A0_0 l0_0.length c0_0, .int .i64 a0_1] 65 (0, 0)) (by exact BK327.out)) : gb328 ≠ gb327)); clear BK327; clear HB; have BK327 := n0_; have HB := n1_; have BK328 := n2_; have GW328 := n3_; have GE328 := n4_; have NB327_328 := n5_; have NB328_327 := n6_; clear n0_ n1_ n2_ n3_ n4_ n5_ n6_; clear hb hbox hg; have hnb13 := NB327_328.out; have hnc13 := NB328_327.out; have hcz14_0 : w12.cell? ⟨gb327, 0, none⟩ = some (.slice A0_0 l0_0.length c0_0) := (blk_cell BK327.out 0).trans rfl; have hcz14_1 : w12.cell? ⟨gb327, 1, none⟩ = some (.int .i64 a0_1) := (blk_cell BK327.out 1).trans rfl; have hfz14_0 := blk_frozen BK327.out 0; have hfz14_1 := blk_frozen BK327.out 1; have hcz15_0 : w12.cell? ⟨gb328, 0, none⟩ = some (.slice A1_0 l1_0.length c1_0) := (blk_cell BK328.out 0).trans rfl; have hcz15_1 : w12.cell? ⟨gb328, 1, none⟩ = some (.int .i64 a1_1) := (blk_cell BK328.out 1).trans rfl; have hfz15_0 := blk_frozen BK328.out 0; have hfz15_1 := blk_frozen BK328.out 1) | ((with_reducible refine gate_callee (f := 87) rfl ?_); refine goesL_ (some 9) rfl rfl Try.func87 (by kernel_rfl) rfl #[.slice A0_0 l0_0.length c0_0, .slice A1_0 l1_0.length c1_0] rfl (by (try simp only [List.map_toArray, List.map_cons, List.map_nil]); rfl) ?_; (with_reducible refine (laws_eqInt64S.calls k _ _ l0_0 _ _ l1_0 true _ ?side1 ?side2 ?side3 ?side4 A3.out).mono ?_); (case side1 => repeat (exact (Kd.C_below HR0_0.out HB.out))); (case side2 => exact HC0_0.out); (case side3 => repeat (exact (Kd.C_below HR1_0.out HB.out))); (case side4 => exact HC1_0.out); rintro e w' ⟨rfl, ⟨nd, rfl⟩⟩; refine ⟨_, rfl, ?_⟩))
     go_ret
     exact ⟨by rfl, by repeat ((with_reducible first | exact HB.out | apply pw_below_drewN))⟩
 · replace c4 := Bool.eq_false_iff.mpr c4
   subst c4
   have H1 : (some false) = some r := by rw [if_neg (show ¬ (false = true) by decide)] at H; exact H
   clear H
   have H := H1
   clear H1
   obtain rfl := Option.some.inj H
   go_enter Try.func63, Try.ntmps63
   go_wp2_with (first | ((with_reducible refine gate_dst (N := 2) rfl ?_); refine box_event ?hg (N := 2) ?hd (cs := #[.slice A0_0 l0_0.length c0_0, .int .i64 a0_1]) (t := 65) ?hr ?_; (case hd => rfl); (case hg => rfl); (case hr => (go_simp; done)); intro gb327 hg w16 hbox hb; have n0_ := am (below_step (by repeat ((with_reducible exact HB.out))) hb); have n1_ := am (hbox); have n2_ := am ((by rw [hg]; exact (below_size (by repeat ((with_reducible exact HB.out)))) : w.heap.size ≤ gb327)); have n3_ := am ((by rw [hg]; exact (below_size (by repeat ((with_reducible exact HB.out)))) : w.heap.size ≤ gb327)); clear HB; have HB := n0_; have BK327 := n1_; have GW327 := n2_; have GE327 := n3_; clear n0_ n1_ n2_ n3_; clear hb hbox hg) | ((with_reducible refine gate_dst (N := 3) rfl ?_); refine box_event ?hg (N := 3) ?hd (cs := #[.slice A1_0 l1_0.length c1_0, .int .i64 a1_1]) (t := 65) ?hr ?_; (case hd => rfl); (case hg => rfl); (case hr => (go_simp; done)); intro gb328 hg w17 hbox hb; have n0_ := am (blk_below (g := gb327) (o := .cells #[.slice A0_0 l0_0.length c0_0, .int .i64 a0_1] 65 (0, 0)) (by exact BK327.out) hb); have n1_ := am (below_step (by repeat ((with_reducible exact HB.out))) hb); have n2_ := am (hbox); have n3_ := am ((by rw [hg]; exact (below_size (by repeat ((with_reducible exact HB.out)))) : w.heap.size ≤ gb328)); have n4_ := am ((by rw [hg]; exact (below_size (by repeat ((with_reducible exact HB.out)))) : w.heap.size ≤ gb328)); have n5_ := am ((by rw [hg]; exact Nat.ne_of_lt (blk_lt (g := gb327) (o := .cells #[.slice A0_0 l0_0.length c0_0, .int .i64 a0_1] 65 (0, 0)) (by exact BK327.out)) : gb327 ≠ gb328)); have n6_ := am ((by rw [hg]; exact Nat.ne_of_gt (blk_lt (g := gb327) (o := .cells #[.slice A0_0 l0_0.length c0_0, .int .i64 a0_1] 65 (0, 0)) (by exact BK327.out)) : gb328 ≠ gb327)); clear BK327; clear HB; have BK327 := n0_; have HB := n1_; have BK328 := n2_; have GW328 := n3_; have GE328 := n4_; have NB327_328 := n5_; have NB328_327 := n6_; clear n0_ n1_ n2_ n3_ n4_ n5_ n6_; clear hb hbox hg; have hnb18 := NB327_328.out; have hnc18 := NB328_327.out; have hcz19_0 : w17.cell? ⟨gb327, 0, none⟩ = some (.slice A0_0 l0_0.length c0_0) := (blk_cell BK327.out 0).trans rfl; have hcz19_1 : w17.cell? ⟨gb327, 1, none⟩ = some (.int .i64 a0_1) := (blk_cell BK327.out 1).trans rfl; have hfz19_0 := blk_frozen BK327.out 0; have hfz19_1 := blk_frozen BK327.out 1; have hcz20_0 : w17.cell? ⟨gb328, 0, none⟩ = some (.slice A1_0 l1_0.length c1_0) := (blk_cell BK328.out 0).trans rfl; have hcz20_1 : w17.cell? ⟨gb328, 1, none⟩ = some (.int .i64 a1_1) := (blk_cell BK328.out 1).trans rfl; have hfz20_0 := blk_frozen BK328.out 0; have hfz20_1 := blk_frozen BK328.out 1) | ((with_reducible refine gate_callee (f := 87) rfl ?_); refine goesL_ (some 9) rfl rfl Try.func87 (by kernel_rfl) rfl #[.slice A0_0 l0_0.length c0_0, .slice A1_0 l1_0.length c1_0] rfl (by (try simp only [List.map_toArray, List.map_cons, List.map_nil]); rfl) ?_; (with_reducible refine (laws_eqInt64S.calls k _ _ l0_0 _ _ l1_0 false _ ?side1 ?side2 ?side3 ?side4 A3.out).mono ?_); (case side1 => repeat (exact (Kd.C_below HR0_0.out HB.out))); (case side2 => exact HC0_0.out); (case side3 => repeat (exact (Kd.C_below HR1_0.out HB.out))); (case side4 => exact HC1_0.out); rintro e w' ⟨rfl, ⟨nd, rfl⟩⟩; refine ⟨_, rfl, ?_⟩))
   go_ret
   exact ⟨by rfl, by repeat ((with_reducible first | exact HB.out | apply pw_below_drewN))⟩
def laws_eqTermS.l0 : Nat → List (S65) → List (S65) → Int → Option (Bool)
 | 0, _, _, _ => none
 | k + 1, x0, x1, x5 => if x5 < (x0.length : Int) then (if 0 ≤ x5 then (if x5 < (x1.length : Int) then ((laws_eqTerm.f k ((rd_T65 x0 x5).f0) ((rd_T65 x0 x5).f1) ((rd_T65 x1 x5).f0) ((rd_T65 x1 x5).f1)).bind fun t332 => (if t332 = true then (laws_eqTermS.l0 k x0 x1 (wrap64 (x5 + 1))) else (some false))) else (none)) else (none)) else (some true)
def laws_eqTermS.f (k : Nat) (l0 : List (S65)) (l1 : List (S65)) : Option (Bool) := if (l0.length : Int) = (l1.length : Int) then (laws_eqTermS.l0 k l0 l1 0) else (some false)
def laws_eqTermS.T6 : Bool × List (List Nat × List Nat) := (true, [([], []), ([], []), ([0, 1], [0, 1]), ([2], [2]), ([], []), ([], []), ([4, 5], [4, 5]), ([6], [6]), ([3, 7], [3, 7]), ([8], [8])])
def laws_eqTermS.B6 : List Nat := [0, 0, 3, 7, 0, 0, 48, 112, 255, 511]
theorem laws_eqTermS.tab6 : rtab .any (opsOf Try.f28 6) = laws_eqTermS.T6 := by kernel_rfl
theorem laws_eqTermS.bits6 : waitsOk laws_eqTermS.T6.2 laws_eqTermS.B6 = true := by kernel_rfl
theorem laws_eqTermS.calls (k : Nat) (A0 : Option Addr) (c0 : Nat) (l0 : List (S65)) (A1 : Option Addr) (c1 : Nat) (l1 : List (S65)) (r : Bool) (w : World) (hr0 : Kd.C k65 w A0 l0.length l0) (hc0 : l0.length ≤ c0) (hr1 : Kd.C k65 w A1 l1.length l1) (hc1 : l1.length ≤ c1) (h : laws_eqTermS.f k l0 l1 = some r) :
 Calls Try.prog 28 #[.slice A0 l0.length c0, .slice A1 l1.length c1] w fun e w' => e = .returned (.bool r) ∧ Below w.heap.size w w' := by
 have hu65 := Try.underlying65
 have HR0 := am hr0
 have HC0 := am hc0
 clear hr0 hc0
 have HR1 := am hr1
 have HC1 := am hc1
 clear hr1 hc1
 have HB := am (Below.refl w.heap.size w)
 have H : (if (l0.length : Int) = (l1.length : Int) then (laws_eqTermS.l0 k l0 l1 0) else (some false)) = some r := h
 clear h
 by_cases c3 : (l0.length : Int) = (l1.length : Int)
 · rw [if_pos c3] at H
   have c3b0 : ((l0.length : Int) == (l1.length : Int)) = true := beq_iff_eq.mpr c3
   have c3b1 : ((l0.length : Int) != (l1.length : Int)) = false := bne_eq_false_iff_eq.mpr c3
   have c3b2 : (l0.length == l1.length) = true := by (simp at c3 ⊢; omega)
   clear c3
   have H' := am H
   clear H
   go_enter Try.func28, Try.ntmps28
   go_wp2
   go_loopg [5] k (fun kq v5 w' => ∃ (x5_1 : Int), v5 = .int .i64 x5_1 ∧ Aside0 (laws_eqTermS.l0 kq l0 l1 x5_1 = some r) ∧ Aside0 (kq ≤ k) ∧ Aside0 (Below w.heap.size w w'))
   case atStart => exact ⟨(0), (by rfl), H', ⟨Nat.le_refl _⟩, ⟨by repeat ((with_reducible exact HB.out))⟩⟩
   case round =>
    clear H'
    try clear c1
    try clear c2
    try clear p2
    try clear c3
    try clear c3b0
    try clear c3b1
    try clear c3b2
    obtain ⟨x5_1, rfl, HA, HK1, HB⟩ := hrel
    cases gk with
    | zero => exact absurd HA.out (by simp [laws_eqTermS.l0])
    | succ k1 =>
     have H := HA.out
     clear HA
     simp only [laws_eqTermS.l0] at H
     by_cases c4 : x5_1 < (l0.length : Int)
     · rw [if_pos c4] at H
       have c4b0 : decide (x5_1 < (l0.length : Int)) = true := decide_eq_true c4
       clear c4
       by_cases c5 : 0 ≤ x5_1
       · rw [if_pos c5] at H
         have c5b0 : decide (0 ≤ x5_1) = true := decide_eq_true c5
         clear c5
         by_cases c6 : x5_1 < (l1.length : Int)
         · rw [if_pos c6] at H
           have c6b0 : decide (x5_1 < (l1.length : Int)) = true := decide_eq_true c6
           clear c6
           replace H := Option.bind_eq_some_iff.mp H
           obtain ⟨t332, A70, H⟩ := H
           replace H : (if t332 = true then (laws_eqTermS.l0 k1 l0 l1 (wrap64 (x5_1 + 1))) else (some false)) = some r := H
           have A7 := am A70
           clear A70
           by_cases c8 : t332 = true
           · subst c8
             have H1 : (laws_eqTermS.l0 k1 l0 l1 (wrap64 (x5_1 + 1))) = some r := by rw [if_pos rfl] at H; exact H
             clear H
             have H := H1
             clear H1
             have H' := am H
             clear H
             try go_wp2
             have n0_ := am (below_drew1 HB.out)
             clear HB
             have HB := n0_
             clear n0_
             have p330 : 0 ≤ (x5_1 : Int) := of_decide_eq_true (by (with_reducible assumption))
             have q330 : x5_1 < (l0.length : Int) := of_decide_eq_true (by (with_reducible assumption))
             obtain ⟨ad330, A330_0, c330_0, e330, hx330_0, hx330_1, hl330_0, hi330_0⟩ := at_T65 HR0.out x5_1 p330 q330
             have hw330_1 := hx330_1
             have hw330_0 := hx330_0
             cases e330
             replace hx330_0 := (HB.out.cell (World.block_lt_of_cell? w _ hx330_0)).trans hx330_0
             replace hx330_1 := (HB.out.cell (World.block_lt_of_cell? w _ hx330_1)).trans hx330_1
             have HR330_0 := am hi330_0
             have HC330_0 := am hl330_0
             clear hi330_0 hl330_0
             replace p330 := eq_true p330
             replace q330 := eq_true q330
             have p331 : 0 ≤ (x5_1 : Int) := of_decide_eq_true (by (with_reducible assumption))
             have q331 : x5_1 < (l1.length : Int) := of_decide_eq_true (by (with_reducible assumption))
             obtain ⟨ad331, A331_0, c331_0, e331, hx331_0, hx331_1, hl331_0, hi331_0⟩ := at_T65 HR1.out x5_1 p331 q331
             have hw331_1 := hx331_1
             have hw331_0 := hx331_0
             cases e331
             replace hx331_0 := (HB.out.cell (World.block_lt_of_cell? w _ hx331_0)).trans hx331_0
             replace hx331_1 := (HB.out.cell (World.block_lt_of_cell? w _ hx331_1)).trans hx331_1
             have HR331_0 := am hi331_0
             have HC331_0 := am hl331_0
             clear hi331_0 hl331_0
             replace p331 := eq_true p331
             replace q331 := eq_true q331
             refine start_ (n := 10) (S := fun w' => w'.cell? (ad330.add ((x5_1).toNat * 2)) = some (.slice A330_0 ((rd_T65 l0 x5_1).f0).length c330_0) ∧ w'.cell? ⟨(ad330.add ((x5_1).toNat * 2)).block, (ad330.add ((x5_1).toNat * 2)).off + 1, none⟩ = some (.int .i64 ((rd_T65 l0 x5_1).f1)) ∧ w'.cell? (ad331.add ((x5_1).toNat * 2)) = some (.slice A331_0 ((rd_T65 l1 x5_1).f0).length c331_0) ∧ w'.cell? ⟨(ad331.add ((x5_1).toNat * 2)).block, (ad331.add ((x5_1).toNat * 2)).off + 1, none⟩ = some (.int .i64 ((rd_T65 l1 x5_1).f1))) (ds := []) (bs 0 10) (by kernel_rfl) rfl rfl ⟨((HB.out.cell (World.block_lt_of_cell? w _ hw330_0)).trans hw330_0), ((HB.out.cell (World.block_lt_of_cell? w _ hw330_1)).trans hw330_1), ((HB.out.cell (World.block_lt_of_cell? w _ hw331_0)).trans hw331_0), ((HB.out.cell (World.block_lt_of_cell? w _ hw331_1)).trans hw331_1)⟩ (fun hHeld => ?_); refine with_tabW laws_eqTermS.tab6 laws_eqTermS.bits6 (fun HT_ HW_ => ?_)
             generalize wr.drew = w9 at HB HR330_0 HR331_0 hx330_0 hx330_1 hx331_0 hx331_1 hHeld ⊢
             refine pure_ (i := 0) (N := some 17) (v := ?_) (a' := ?_) (bs 1 10) rfl rfl (any_of HT_.out (by kernel_rfl)) (fun _ _ _ h => h) (Or.inl ⟨by rfl, ?_⟩) ?_ ?_; rotate_left; intro w'; go_simp; with_reducible rfl; rotate_left; simp only [Act.put, q1, q2, q3, i64_w, i32_w]; rfl
             refine pure_ (i := 1) (N := some 18) (v := ?_) (a' := ?_) (bs 3 10) rfl rfl (any_of HT_.out (by kernel_rfl)) (fun _ _ _ h => h) (Or.inl ⟨by rfl, ?_⟩) ?_ ?_; rotate_left; intro w'; go_simp; with_reducible rfl; rotate_left; simp only [Act.put, q1, q2, q3, i64_w, i32_w]; rfl
             refine pure_ (i := 2) (N := some 19) (v := ?_) (a' := ?_) (bs 7 10) rfl rfl (any_of HT_.out (by kernel_rfl)) (fun _ _ _ h => h) (Or.inl ⟨by rfl, ?_⟩) ?_ ?_; rotate_left; intro w'; go_simp; with_reducible rfl; rotate_left; simp only [Act.put, q1, q2, q3, i64_w, i32_w]; rfl
             refine pure_ (i := 4) (N := some 21) (v := ?_) (a' := ?_) (bs 23 10) rfl rfl (any_of HT_.out (by kernel_rfl)) (fun _ _ _ h => h) (Or.inl ⟨by rfl, ?_⟩) ?_ ?_; rotate_left; intro w'; go_simp; with_reducible rfl; rotate_left; simp only [Act.put, q1, q2, q3, i64_w, i32_w]; rfl
             refine pure_ (i := 5) (N := some 22) (v := ?_) (a' := ?_) (bs 55 10) rfl rfl (any_of HT_.out (by kernel_rfl)) (fun _ _ _ h => h) (Or.inl ⟨by rfl, ?_⟩) ?_ ?_; rotate_left; intro w'; go_simp; with_reducible rfl; rotate_left; simp only [Act.put, q1, q2, q3, i64_w, i32_w]; rfl
             refine pure_ (i := 6) (N := some 23) (v := ?_) (a' := ?_) (bs 119 10) rfl rfl (any_of HT_.out (by kernel_rfl)) (fun _ _ _ h => h) (Or.inl ⟨by rfl, ?_⟩) ?_ ?_; rotate_left; intro w'; go_simp; with_reducible rfl; rotate_left; simp only [Act.put, q1, q2, q3, i64_w, i32_w]; rfl
             refine take_ (i := 3) (N := some 20) (v := ?_) (a' := ?_) (bs 127 10) rfl rfl (take_ofW HT_.out HW_.out (by kernel_rfl)) (fun _ _ _ h => h) (Or.inl ⟨by rfl, ?_⟩) hHeld ?_ ?_; rotate_left; rintro w' ⟨s0, s1, s2, s3⟩; go_simp; with_reducible rfl; rotate_left; simp only [Act.put, q1, q2, q3, i64_w, i32_w]; rfl
             refine take_ (i := 7) (N := some 24) (v := ?_) (a' := ?_) (bs 255 10) rfl rfl (take_ofW HT_.out HW_.out (by kernel_rfl)) (fun _ _ _ h => h) (Or.inl ⟨by rfl, ?_⟩) hHeld ?_ ?_; rotate_left; rintro w' ⟨s0, s1, s2, s3⟩; go_simp; with_reducible rfl; rotate_left; simp only [Act.put, q1, q2, q3, i64_w, i32_w]; rfl
             refine one_ (i := 8) (N := some 25) (bs 511 10) rfl rfl (one_of HT_.out (by kernel_rfl)) (by decide) (fun K hK => ?_)
             refine goes_ Try.func63 (by kernel_rfl) rfl #[.agg #[.slice A330_0 ((rd_T65 l0 x5_1).f0).length c330_0, .int .i64 ((rd_T65 l0 x5_1).f1)], .agg #[.slice A331_0 ((rd_T65 l1 x5_1).f0).length c331_0, .int .i64 ((rd_T65 l1 x5_1).f1)]] (by rfl) rfl rfl (by (try simp only [List.map_toArray, List.map_cons, List.map_nil]); rfl) ?_
             with_reducible refine (laws_eqTerm.calls k1 _ _ ((rd_T65 l0 x5_1).f0) ((rd_T65 l0 x5_1).f1) _ _ ((rd_T65 l1 x5_1).f0) ((rd_T65 l1 x5_1).f1) true _ ?side1 ?side2 ?side3 ?side4 A7.out).mono ?_
             (case side1 => repeat (exact (Kd.C_below HR330_0.out HB.out)))
             (case side2 => exact HC330_0.out)
             (case side3 => repeat (exact (Kd.C_below HR331_0.out HB.out)))
             (case side4 => exact HC331_0.out)
             rintro e w10 ⟨rfl, hb⟩
             refine ⟨_, rfl, ?_⟩
             have n0_ := am (below_step (by repeat ((with_reducible exact HB.out))) hb)
             clear HB
             have HB := n0_
             clear n0_
             (try clear hb)
             (try clear hb2)
             (try clear hk)
             (try clear hi)
             refine hK.out _ _ ⟨((HB.out.cell (World.block_lt_of_cell? w _ hw330_0)).trans hw330_0), ((HB.out.cell (World.block_lt_of_cell? w _ hw330_1)).trans hw330_1), ((HB.out.cell (World.block_lt_of_cell? w _ hw331_0)).trans hw331_0), ((HB.out.cell (World.block_lt_of_cell? w _ hw331_1)).trans hw331_1)⟩ (fun hHeld => ?_)
             clear hK K
             refine norm_ (a' := ?_) ?_ ?_; rotate_left; show Act.put _ (some 25) _ = _; simp only [Act.put, q1, q2, q3, i64_w, i32_w]; rfl
             refine pure_ (i := 9) (N := some 26) (v := ?_) (a' := ?_) (bs 1023 10) rfl rfl (any_of HT_.out (by kernel_rfl)) (fun _ _ _ h => h) (Or.inl ⟨by rfl, ?_⟩) ?_ ?_; rotate_left; intro w'; go_simp; with_reducible rfl; rotate_left; simp only [Act.put, q1, q2, q3, i64_w, i32_w]; rfl
             refine done_ (done_of HT_.out (by kernel_rfl)) ?_
             try go_wp2
             go_roundg k1
             case measure => have := HK1.out; omega
             case rel => exact ⟨(wrap64 (x5_1 + 1)), (by rfl), H', ⟨by have := HK1.out; omega⟩, ⟨by repeat ((with_reducible exact HB.out))⟩⟩
           · replace c8 := Bool.eq_false_iff.mpr c8
             subst c8
             have H1 : (some false) = some r := by rw [if_neg (show ¬ (false = true) by decide)] at H; exact H
             clear H
             have H := H1
             clear H1
             obtain rfl := Option.some.inj H
             try go_wp2
             have n0_ := am (below_drew1 HB.out)
             clear HB
             have HB := n0_
             clear n0_
             have p330 : 0 ≤ (x5_1 : Int) := of_decide_eq_true (by (with_reducible assumption))
             have q330 : x5_1 < (l0.length : Int) := of_decide_eq_true (by (with_reducible assumption))
             obtain ⟨ad330, A330_0, c330_0, e330, hx330_0, hx330_1, hl330_0, hi330_0⟩ := at_T65 HR0.out x5_1 p330 q330
             have hw330_1 := hx330_1
             have hw330_0 := hx330_0
             cases e330
             replace hx330_0 := (HB.out.cell (World.block_lt_of_cell? w _ hx330_0)).trans hx330_0
             replace hx330_1 := (HB.out.cell (World.block_lt_of_cell? w _ hx330_1)).trans hx330_1
             have HR330_0 := am hi330_0
             have HC330_0 := am hl330_0
             clear hi330_0 hl330_0
             replace p330 := eq_true p330
             replace q330 := eq_true q330
             have p331 : 0 ≤ (x5_1 : Int) := of_decide_eq_true (by (with_reducible assumption))
             have q331 : x5_1 < (l1.length : Int) := of_decide_eq_true (by (with_reducible assumption))
             obtain ⟨ad331, A331_0, c331_0, e331, hx331_0, hx331_1, hl331_0, hi331_0⟩ := at_T65 HR1.out x5_1 p331 q331
             have hw331_1 := hx331_1
             have hw331_0 := hx331_0
             cases e331
             replace hx331_0 := (HB.out.cell (World.block_lt_of_cell? w _ hx331_0)).trans hx331_0
             replace hx331_1 := (HB.out.cell (World.block_lt_of_cell? w _ hx331_1)).trans hx331_1
             have HR331_0 := am hi331_0
             have HC331_0 := am hl331_0
             clear hi331_0 hl331_0
             replace p331 := eq_true p331
             replace q331 := eq_true q331
             refine start_ (n := 10) (S := fun w' => w'.cell? (ad330.add ((x5_1).toNat * 2)) = some (.slice A330_0 ((rd_T65 l0 x5_1).f0).length c330_0) ∧ w'.cell? ⟨(ad330.add ((x5_1).toNat * 2)).block, (ad330.add ((x5_1).toNat * 2)).off + 1, none⟩ = some (.int .i64 ((rd_T65 l0 x5_1).f1)) ∧ w'.cell? (ad331.add ((x5_1).toNat * 2)) = some (.slice A331_0 ((rd_T65 l1 x5_1).f0).length c331_0) ∧ w'.cell? ⟨(ad331.add ((x5_1).toNat * 2)).block, (ad331.add ((x5_1).toNat * 2)).off + 1, none⟩ = some (.int .i64 ((rd_T65 l1 x5_1).f1))) (ds := []) (bs 0 10) (by kernel_rfl) rfl rfl ⟨((HB.out.cell (World.block_lt_of_cell? w _ hw330_0)).trans hw330_0), ((HB.out.cell (World.block_lt_of_cell? w _ hw330_1)).trans hw330_1), ((HB.out.cell (World.block_lt_of_cell? w _ hw331_0)).trans hw331_0), ((HB.out.cell (World.block_lt_of_cell? w _ hw331_1)).trans hw331_1)⟩ (fun hHeld => ?_); refine with_tabW laws_eqTermS.tab6 laws_eqTermS.bits6 (fun HT_ HW_ => ?_)
             generalize wr.drew = w11 at HB HR330_0 HR331_0 hx330_0 hx330_1 hx331_0 hx331_1 hHeld ⊢
             refine pure_ (i := 0) (N := some 17) (v := ?_) (a' := ?_) (bs 1 10) rfl rfl (any_of HT_.out (by kernel_rfl)) (fun _ _ _ h => h) (Or.inl ⟨by rfl, ?_⟩) ?_ ?_; rotate_left; intro w'; go_simp; with_reducible rfl; rotate_left; simp only [Act.put, q1, q2, q3, i64_w, i32_w]; rfl
             refine pure_ (i := 1) (N := some 18) (v := ?_) (a' := ?_) (bs 3 10) rfl rfl (any_of HT_.out (by kernel_rfl)) (fun _ _ _ h => h) (Or.inl ⟨by rfl, ?_⟩) ?_ ?_; rotate_left; intro w'; go_simp; with_reducible rfl; rotate_left; simp only [Act.put, q1, q2, q3, i64_w, i32_w]; rfl
             refine pure_ (i := 2) (N := some 19) (v := ?_) (a' := ?_) (bs 7 10) rfl rfl (any_of HT_.out (by kernel_rfl)) (fun _ _ _ h => h) (Or.inl ⟨by rfl, ?_⟩) ?_ ?_; rotate_left; intro w'; go_simp; with_reducible rfl; rotate_left; simp only [Act.put, q1, q2, q3, i64_w, i32_w]; rfl
             refine pure_ (i := 4) (N := some 21) (v := ?_) (a' := ?_) (bs 23 10) rfl rfl (any_of HT_.out (by kernel_rfl)) (fun _ _ _ h => h) (Or.inl ⟨by rfl, ?_⟩) ?_ ?_; rotate_left; intro w'; go_simp; with_reducible rfl; rotate_left; simp only [Act.put, q1, q2, q3, i64_w, i32_w]; rfl
             refine pure_ (i := 5) (N := some 22) (v := ?_) (a' := ?_) (bs 55 10) rfl rfl (any_of HT_.out (by kernel_rfl)) (fun _ _ _ h => h) (Or.inl ⟨by rfl, ?_⟩) ?_ ?_; rotate_left; intro w'; go_simp; with_reducible rfl; rotate_left; simp only [Act.put, q1, q2, q3, i64_w, i32_w]; rfl
             refine pure_ (i := 6) (N := some 23) (v := ?_) (a' := ?_) (bs 119 10) rfl rfl (any_of HT_.out (by kernel_rfl)) (fun _ _ _ h => h) (Or.inl ⟨by rfl, ?_⟩) ?_ ?_; rotate_left; intro w'; go_simp; with_reducible rfl; rotate_left; simp only [Act.put, q1, q2, q3, i64_w, i32_w]; rfl
             refine take_ (i := 3) (N := some 20) (v := ?_) (a' := ?_) (bs 127 10) rfl rfl (take_ofW HT_.out HW_.out (by kernel_rfl)) (fun _ _ _ h => h) (Or.inl ⟨by rfl, ?_⟩) hHeld ?_ ?_; rotate_left; rintro w' ⟨s0, s1, s2, s3⟩; go_simp; with_reducible rfl; rotate_left; simp only [Act.put, q1, q2, q3, i64_w, i32_w]; rfl
             refine take_ (i := 7) (N := some 24) (v := ?_) (a' := ?_) (bs 255 10) rfl rfl (take_ofW HT_.out HW_.out (by kernel_rfl)) (fun _ _ _ h => h) (Or.inl ⟨by rfl, ?_⟩) hHeld ?_ ?_; rotate_left; rintro w' ⟨s0, s1, s2, s3⟩; go_simp; with_reducible rfl; rotate_left; simp only [Act.put, q1, q2, q3, i64_w, i32_w]; rfl
             refine one_ (i := 8) (N := some 25) (bs 511 10) rfl rfl (one_of HT_.out (by kernel_rfl)) (by decide) (fun K hK => ?_)
             refine goes_ Try.func63 (by kernel_rfl) rfl #[.agg #[.slice A330_0 ((rd_T65 l0 x5_1).f0).length c330_0, .int .i64 ((rd_T65 l0 x5_1).f1)], .agg #[.slice A331_0 ((rd_T65 l1 x5_1).f0).length c331_0, .int .i64 ((rd_T65 l1 x5_1).f1)]] (by rfl) rfl rfl (by (try simp only [List.map_toArray, List.map_cons, List.map_nil]); rfl) ?_
             with_reducible refine (laws_eqTerm.calls k1 _ _ ((rd_T65 l0 x5_1).f0) ((rd_T65 l0 x5_1).f1) _ _ ((rd_T65 l1 x5_1).f0) ((rd_T65 l1 x5_1).f1) false _ ?side1 ?side2 ?side3 ?side4 A7.out).mono ?_
             (case side1 => repeat (exact (Kd.C_below HR330_0.out HB.out)))
             (case side2 => exact HC330_0.out)
             (case side3 => repeat (exact (Kd.C_below HR331_0.out HB.out)))
             (case side4 => exact HC331_0.out)
             rintro e w12 ⟨rfl, hb⟩
             refine ⟨_, rfl, ?_⟩
             have n0_ := am (below_step (by repeat ((with_reducible exact HB.out))) hb)
             clear HB
             have HB := n0_
             clear n0_
             (try clear hb)
             (try clear hb2)
             (try clear hk)
             (try clear hi)
             refine hK.out _ _ ⟨((HB.out.cell (World.block_lt_of_cell? w _ hw330_0)).trans hw330_0), ((HB.out.cell (World.block_lt_of_cell? w _ hw330_1)).trans hw330_1), ((HB.out.cell (World.block_lt_of_cell? w _ hw331_0)).trans hw331_0), ((HB.out.cell (World.block_lt_of_cell? w _ hw331_1)).trans hw331_1)⟩ (fun hHeld => ?_)
             clear hK K
             refine norm_ (a' := ?_) ?_ ?_; rotate_left; show Act.put _ (some 25) _ = _; simp only [Act.put, q1, q2, q3, i64_w, i32_w]; rfl
             refine pure_ (i := 9) (N := some 26) (v := ?_) (a' := ?_) (bs 1023 10) rfl rfl (any_of HT_.out (by kernel_rfl)) (fun _ _ _ h => h) (Or.inl ⟨by rfl, ?_⟩) ?_ ?_; rotate_left; intro w'; go_simp; with_reducible rfl; rotate_left; simp only [Act.put, q1, q2, q3, i64_w, i32_w]; rfl
             refine done_ (done_of HT_.out (by kernel_rfl)) ?_
             try go_wp2
             go_ret
             exact ⟨by rfl, by repeat ((with_reducible exact HB.out))⟩
         · rw [if_neg c6] at H
           exact absurd H (by simp)
       · rw [if_neg c5] at H
         exact absurd H (by simp)
     · rw [if_neg c4] at H
       have c4b0 : decide (x5_1 < (l0.length : Int)) = false := decide_eq_false c4
       clear c4
       obtain rfl := Option.some.inj H
       go_wp2
       go_ret
       exact ⟨by rfl, by repeat ((with_reducible exact HB.out))⟩
 · rw [if_neg c3] at H
   have c3b0 : ((l0.length : Int) == (l1.length : Int)) = false := beq_eq_false_iff_ne.mpr c3
   have c3b1 : ((l0.length : Int) != (l1.length : Int)) = true := bne_iff_ne.mpr c3
   have c3b2 : (l0.length == l1.length) = false := by (simp at c3 ⊢; omega)
   obtain rfl := Option.some.inj H
   go_enter Try.func28, Try.ntmps28
   go_wp2
   go_ret
   exact ⟨by rfl, by repeat ((with_reducible exact HB.out))⟩
def laws_eqSum.f (k : Nat) (a0_0 : Int) (l0_1 : List (S65)) (a1_0 : Int) (l1_1 : List (S65)) : Option (Bool) := if a0_0 = a1_0 then ((laws_eqTermS.f k l0_1 l1_1).bind fun t335 => (if t335 = true then (some true) else (some false))) else (some false)
theorem laws_eqSum.calls (k : Nat) (a0_0 : Int) (A0_1 : Option Addr) (c0_1 : Nat) (l0_1 : List (S65)) (a1_0 : Int) (A1_1 : Option Addr) (c1_1 : Nat) (l1_1 : List (S65)) (r : Bool) (w : World) (hr0_1 : Kd.C k65 w A0_1 l0_1.length l0_1) (hc0_1 : l0_1.length ≤ c0_1) (hr1_1 : Kd.C k65 w A1_1 l1_1.length l1_1) (hc1_1 : l1_1.length ≤ c1_1) (h : laws_eqSum.f k a0_0 l0_1 a1_0 l1_1 = some r) :
 Calls Try.prog 10 #[.agg #[.int .i64 a0_0, .slice A0_1 l0_1.length c0_1], .agg #[.int .i64 a1_0, .slice A1_1 l1_1.length c1_1]] w fun e w' => e = .returned (.bool r) ∧ Below w.heap.size w w' := by
 have hu28 := Try.underlying28
 have HR0_1 := am hr0_1
 have HC0_1 := am hc0_1
 clear hr0_1 hc0_1
 have HR1_1 := am hr1_1
 have HC1_1 := am hc1_1
 clear hr1_1 hc1_1
 have HB := am (Below.refl w.heap.size w)
 have H : (if a0_0 = a1_0 then ((laws_eqTermS.f k l0_1 l1_1).bind fun t335 => (if t335 = true then (some true) else (some false))) else (some false)) = some r := h
 clear h
 by_cases c3 : a0_0 = a1_0
 · rw [if_pos c3] at H
   have c3b0 : (a0_0 == a1_0) = true := beq_iff_eq.mpr c3
   have c3b1 : (a0_0 != a1_0) = false := bne_eq_false_iff_eq.mpr c3
   clear c3
   replace H := Option.bind_eq_some_iff.mp H
   obtain ⟨t335, A40, H⟩ := H
   replace H : (if t335 = true then (some true) else (some false)) = some r := H
   have A4 := am A40
   clear A40
   by_cases c5 : t335 = true
   · subst c5
     have H1 : (some true) = some r := by rw [if_pos rfl] at H; exact H
     clear H
     have H := H1
     clear H1
     obtain rfl := Option.some.inj H
     go_enter Try.func10, Try.ntmps10
     go_wp2_with (first | ((with_reducible refine gate_dst (N := 2) rfl ?_); refine box_event ?hg (N := 2) ?hd (cs := #[.int .i64 a0_0, .slice A0_1 l0_1.length c0_1]) (t := 28) ?hr ?_; (case hd => rfl); (case hg => rfl); (case hr => (go_simp; done)); intro gb333 hg w6 hbox hb; have n0_ := am (below_step (by repeat ((with_reducible exact HB.out))) hb); have n1_ := am (hbox); have n2_ := am ((by rw [hg]; exact (below_size (by repeat ((with_reducible exact HB.out)))) : w.heap.size ≤ gb333)); have n3_ := am ((by rw [hg]; exact (below_size (by repeat ((with_reducible exact HB.out)))) : w.heap.size ≤ gb333)); clear HB; have HB := n0_; have BK333 := n1_; have GW333 := n2_; have GE333 := n3_; clear n0_ n1_ n2_ n3_; clear hb hbox hg) | ((with_reducible refine gate_dst (N := 3) rfl ?_); refine box_event ?hg (N := 3) ?hd (cs := #[.int .i64 a1_0, .slice A1_1 l1_1.length c1_1]) (t := 28) ?hr ?_; (case hd => rfl); (case hg => rfl); (case hr => (go_simp; done)); intro gb334 hg w7 hbox hb; have n0_ := am (blk_below (g := gb333) (o := .cells #[.int .i64 a0_0, .slice A0_1 l0_1.length c0_1] 28 (0, 0)) (by exact BK333.out) hb); have n1_ := am (below_step (by repeat ((with_reducible exact HB.out))) hb); have n2_ := am (hbox); have n3_ := am ((by rw [hg]; exact (below_size (by repeat ((with_reducible exact HB.out)))) : w.heap.size ≤ gb334)); have n4_ := am ((by rw [hg]; exact (below_size (by repeat ((with_reducible exact HB.out)))) : w.heap.size ≤ gb334)); have n5_ := am ((by rw [hg]; exact Nat.ne_of_lt (blk_lt (g := gb333) (o := .cells #[.int .i64 a0_0, .slice A0_1 l0_1.length c0_1] 28 (0, 0)) (by exact BK333.out)) : gb333 ≠ gb334)); have n6_ := am ((by rw [hg]; exact Nat.ne_of_gt (blk_lt (g := gb333) (o := .cells #[.int .i64 a0_0, .slice A0_1 l0_1.length c0_1] 28 (0, 0)) (by exact BK333.out)) : gb334 ≠ gb333)); clear BK333; clear HB; have BK333 := n0_; have HB := n1_; have BK334 := n2_; have GW334 := n3_; have GE334 := n4_; have NB333_334 := n5_; have NB334_333 := n6_; clear n0_ n1_ n2_ n3_ n4_ n5_ n6_; clear hb hbox hg; have hnb8 := NB333_334.out; have hnc8 := NB334_333.out; have hcz9_0 : w7.cell? ⟨gb333, 0, none⟩ = some (.int .i64 a0_0) := (blk_cell BK333.out 0).trans rfl; have hcz9_1 : w7.cell? ⟨gb333, 1, none⟩ = some (.slice A0_1 l0_1.length c0_1) := (blk_cell BK333.out 1).trans rfl; have hfz9_0 := blk_frozen BK333.out 0; have hfz9_1 := blk_frozen BK333.out 1; have hcz10_0 : w7.cell? ⟨gb334, 0, none⟩ = some (.int .i64 a1_0) := (blk_cell BK334.out 0).trans rfl; have hcz10_1 : w7.cell? ⟨gb334, 1, none⟩ = some (.slice A1_1 l1_1.length c1_1) := (blk_cell BK334.out 1).trans rfl; have hfz10_0 := blk_frozen BK334.out 0; have hfz10_1 := blk_frozen BK334.out 1) | ((with_reducible refine gate_callee (f := 28) rfl ?_); refine goesL_ (some 14) rfl rfl Try.func28 (by kernel_rfl) rfl #[.slice A0_1 l0_1.length c0_1, .slice A1_1 l1_1.length c1_1] rfl (by (try simp only [List.map_toArray, List.map_cons, List.map_nil]); rfl) ?_; (with_reducible refine (laws_eqTermS.calls k _ _ l0_1 _ _ l1_1 true _ ?side1 ?side2 ?side3 ?side4 A4.out).mono ?_); (case side1 => repeat (exact (Kd.C_below HR0_1.out HB.out))); (case side2 => exact HC0_1.out); (case side3 => repeat (exact (Kd.C_below HR1_1.out HB.out))); (case side4 => exact HC1_1.out); rintro e w11 ⟨rfl, hb⟩; refine ⟨_, rfl, ?_⟩; have n0_ := am (blk_below (g := gb333) (o := .cells #[.int .i64 a0_0, .slice A0_1 l0_1.length c0_1] 28 (0, 0)) (by exact BK333.out) hb); have n1_ := am (blk_below (g := gb334) (o := .cells #[.int .i64 a1_0, .slice A1_1 l1_1.length c1_1] 28 (0, 0)) (by exact BK334.out) hb); have n2_ := am (below_step (by repeat ((with_reducible exact HB.out))) hb); clear BK333; clear BK334; clear HB; have BK333 := n0_; have BK334 := n1_; have HB := n2_; clear n0_ n1_ n2_; (try clear hb); (try clear hb2); (try clear hk); (try clear hi)))
     go_ret
     exact ⟨by rfl, by repeat ((with_reducible exact HB.out))⟩
   · replace c5 := Bool.eq_false_iff.mpr c5
     subst c5
     have H1 : (some false) = some r := by rw [if_neg (show ¬ (false = true) by decide)] at H; exact H
     clear H
     have H := H1
     clear H1
     obtain rfl := Option.some.inj H
     go_enter Try.func10, Try.ntmps10
     go_wp2_with (first | ((with_reducible refine gate_dst (N := 2) rfl ?_); refine box_event ?hg (N := 2) ?hd (cs := #[.int .i64 a0_0, .slice A0_1 l0_1.length c0_1]) (t := 28) ?hr ?_; (case hd => rfl); (case hg => rfl); (case hr => (go_simp; done)); intro gb333 hg w12 hbox hb; have n0_ := am (below_step (by repeat ((with_reducible exact HB.out))) hb); have n1_ := am (hbox); have n2_ := am ((by rw [hg]; exact (below_size (by repeat ((with_reducible exact HB.out)))) : w.heap.size ≤ gb333)); have n3_ := am ((by rw [hg]; exact (below_size (by repeat ((with_reducible exact HB.out)))) : w.heap.size ≤ gb333)); clear HB; have HB := n0_; have BK333 := n1_; have GW333 := n2_; have GE333 := n3_; clear n0_ n1_ n2_ n3_; clear hb hbox hg) | ((with_reducible refine gate_dst (N := 3) rfl ?_); refine box_event ?hg (N := 3) ?hd (cs := #[.int .i64 a1_0, .slice A1_1 l1_1.length c1_1]) (t := 28) ?hr ?_; (case hd => rfl); (case hg => rfl); (case hr => (go_simp; done)); intro gb334 hg w13 hbox hb; have n0_ := am (blk_below (g := gb333) (o := .cells #[.int .i64 a0_0, .slice A0_1 l0_1.length c0_1] 28 (0, 0)) (by exact BK333.out) hb); have n1_ := am (below_step (by repeat ((with_reducible exact HB.out))) hb); have n2_ := am (hbox); have n3_ := am ((by rw [hg]; exact (below_size (by repeat ((with_reducible exact HB.out)))) : w.heap.size ≤ gb334)); have n4_ := am ((by rw [hg]; exact (below_size (by repeat ((with_reducible exact HB.out)))) : w.heap.size ≤ gb334)); have n5_ := am ((by rw [hg]; exact Nat.ne_of_lt (blk_lt (g := gb333) (o := .cells #[.int .i64 a0_0, .slice A0_1 l0_1.length c0_1] 28 (0, 0)) (by exact BK333.out)) : gb333 ≠ gb334)); have n6_ := am ((by rw [hg]; exact Nat.ne_of_gt (blk_lt (g := gb333) (o := .cells #[.int .i64 a0_0, .slice A0_1 l0_1.length c0_1] 28 (0, 0)) (by exact BK333.out)) : gb334 ≠ gb333)); clear BK333; clear HB; have BK333 := n0_; have HB := n1_; have BK334 := n2_; have GW334 := n3_; have GE334 := n4_; have NB333_334 := n5_; have NB334_333 := n6_; clear n0_ n1_ n2_ n3_ n4_ n5_ n6_; clear hb hbox hg; have hnb14 := NB333_334.out; have hnc14 := NB334_333.out; have hcz15_0 : w13.cell? ⟨gb333, 0, none⟩ = some (.int .i64 a0_0) := (blk_cell BK333.out 0).trans rfl; have hcz15_1 : w13.cell? ⟨gb333, 1, none⟩ = some (.slice A0_1 l0_1.length c0_1) := (blk_cell BK333.out 1).trans rfl; have hfz15_0 := blk_frozen BK333.out 0; have hfz15_1 := blk_frozen BK333.out 1; have hcz16_0 : w13.cell? ⟨gb334, 0, none⟩ = some (.int .i64 a1_0) := (blk_cell BK334.out 0).trans rfl; have hcz16_1 : w13.cell? ⟨gb334, 1, none⟩ = some (.slice A1_1 l1_1.length c1_1) := (blk_cell BK334.out 1).trans rfl; have hfz16_0 := blk_frozen BK334.out 0; have hfz16_1 := blk_frozen BK334.out 1) | ((with_reducible refine gate_callee (f := 28) rfl ?_); refine goesL_ (some 14) rfl rfl Try.func28 (by kernel_rfl) rfl #[.slice A0_1 l0_1.length c0_1, .slice A1_1 l1_1.length c1_1] rfl (by (try simp only [List.map_toArray, List.map_cons, List.map_nil]); rfl) ?_; (with_reducible refine (laws_eqTermS.calls k _ _ l0_1 _ _ l1_1 false _ ?side1 ?side2 ?side3 ?side4 A4.out).mono ?_); (case side1 => repeat (exact (Kd.C_below HR0_1.out HB.out))); (case side2 => exact HC0_1.out); (case side3 => repeat (exact (Kd.C_below HR1_1.out HB.out))); (case side4 => exact HC1_1.out); rintro e w17 ⟨rfl, hb⟩; refine ⟨_, rfl, ?_⟩; have n0_ := am (blk_below (g := gb333) (o := .cells #[.int .i64 a0_0, .slice A0_1 l0_1.length c0_1] 28 (0, 0)) (by exact BK333.out) hb); have n1_ := am (blk_below (g := gb334) (o := .cells #[.int .i64 a1_0, .slice A1_1 l1_1.length c1_1] 28 (0, 0)) (by exact BK334.out) hb); have n2_ := am (below_step (by repeat ((with_reducible exact HB.out))) hb); clear BK333; clear BK334; clear HB; have BK333 := n0_; have BK334 := n1_; have HB := n2_; clear n0_ n1_ n2_; (try clear hb); (try clear hb2); (try clear hk); (try clear hi)))
     go_ret
     exact ⟨by rfl, by repeat ((with_reducible exact HB.out))⟩
 · rw [if_neg c3] at H
   have c3b0 : (a0_0 == a1_0) = false := beq_eq_false_iff_ne.mpr c3
   have c3b1 : (a0_0 != a1_0) = true := bne_iff_ne.mpr c3
   obtain rfl := Option.some.inj H
   go_enter Try.func10, Try.ntmps10
   go_wp2_with (first | ((with_reducible refine gate_dst (N := 2) rfl ?_); refine box_event ?hg (N := 2) ?hd (cs := #[.int .i64 a0_0, .slice A0_1 l0_1.length c0_1]) (t := 28) ?hr ?_; (case hd => rfl); (case hg => rfl); (case hr => (go_simp; done)); intro gb333 hg w18 hbox hb; have n0_ := am (below_step (by repeat ((with_reducible exact HB.out))) hb); have n1_ := am (hbox); have n2_ := am ((by rw [hg]; exact (below_size (by repeat ((with_reducible exact HB.out)))) : w.heap.size ≤ gb333)); have n3_ := am ((by rw [hg]; exact (below_size (by repeat ((with_reducible exact HB.out)))) : w.heap.size ≤ gb333)); clear HB; have HB := n0_; have BK333 := n1_; have GW333 := n2_; have GE333 := n3_; clear n0_ n1_ n2_ n3_; clear hb hbox hg) | ((with_reducible refine gate_dst (N := 3) rfl ?_); refine box_event ?hg (N := 3) ?hd (cs := #[.int .i64 a1_0, .slice A1_1 l1_1.length c1_1]) (t := 28) ?hr ?_; (case hd => rfl); (case hg => rfl); (case hr => (go_simp; done)); intro gb334 hg w19 hbox hb; have n0_ := am (blk_below (g := gb333) (o := .cells #[.int .i64 a0_0, .slice A0_1 l0_1.length c0_1] 28 (0, 0)) (by exact BK333.out) hb); have n1_ := am (below_step (by repeat ((with_reducible exact HB.out))) hb); have n2_ := am (hbox); have n3_ := am ((by rw [hg]; exact (below_size (by repeat ((with_reducible exact HB.out)))) : w.heap.size ≤ gb334)); have n4_ := am ((by rw [hg]; exact (below_size (by repeat ((with_reducible exact HB.out)))) : w.heap.size ≤ gb334)); have n5_ := am ((by rw [hg]; exact Nat.ne_of_lt (blk_lt (g := gb333) (o := .cells #[.int .i64 a0_0, .slice A0_1 l0_1.length c0_1] 28 (0, 0)) (by exact BK333.out)) : gb333 ≠ gb334)); have n6_ := am ((by rw [hg]; exact Nat.ne_of_gt (blk_lt (g := gb333) (o := .cells #[.int .i64 a0_0, .slice A0_1 l0_1.length c0_1] 28 (0, 0)) (by exact BK333.out)) : gb334 ≠ gb333)); clear BK333; clear HB; have BK333 := n0_; have HB := n1_; have BK334 := n2_; have GW334 := n3_; have GE334 := n4_; have NB333_334 := n5_; have NB334_333 := n6_; clear n0_ n1_ n2_ n3_ n4_ n5_ n6_; clear hb hbox hg; have hnb20 := NB333_334.out; have hnc20 := NB334_333.out; have hcz21_0 : w19.cell? ⟨gb333, 0, none⟩ = some (.int .i64 a0_0) := (blk_cell BK333.out 0).trans rfl; have hcz21_1 : w19.cell? ⟨gb333, 1, none⟩ = some (.slice A0_1 l0_1.length c0_1) := (blk_cell BK333.out 1).trans rfl; have hfz21_0 := blk_frozen BK333.out 0; have hfz21_1 := blk_frozen BK333.out 1; have hcz22_0 : w19.cell? ⟨gb334, 0, none⟩ = some (.int .i64 a1_0) := (blk_cell BK334.out 0).trans rfl; have hcz22_1 : w19.cell? ⟨gb334, 1, none⟩ = some (.slice A1_1 l1_1.length c1_1) := (blk_cell BK334.out 1).trans rfl; have hfz22_0 := blk_frozen BK334.out 0; have hfz22_1 := blk_frozen BK334.out 1))
   go_ret
   exact ⟨by rfl, by repeat ((with_reducible exact HB.out))⟩
def laws_markInt64S.l0 : Nat → List Int → Int → Int → Option (Int × List Int)
 | 0, _, _, _ => none
 | k + 1, x0, x1, x5 => if x5 < (x0.length : Int) then (if 0 ≤ x5 then (laws_markInt64S.l0 k (x0.set (x5 : Int).toNat x1) (wrap64 (x1 + 1)) (wrap64 (x5 + 1))) else (none)) else (some (x1, x0))
def laws_markInt64S.f (k : Nat) (l0 : List Int) (a1 : Int) : Option (Int × List Int) := laws_markInt64S.l0 k l0 a1 0
theorem laws_markInt64S.calls (k : Nat) (P0_ : Nat → Prop) (u9000_ : Value) (l0 : List Int) (a1 : Int) (r1 : Int) (r2 : List Int) (w0 w : World) (hB : Below w0.heap.size w0 w) (ho0 : Kd.R (Kd.int .i64) 2 w w0.heap.size P0_ u9000_ l0) (h : laws_markInt64S.f k l0 a1 = some (r1, r2)) :
 Calls Try.prog 64 #[u9000_, .int .i64 a1] w fun e w' => e = .returned (.int .i64 r1) ∧ Kd.R (Kd.int .i64) 2 w' w0.heap.size (fun k_ => (P0_ k_ ∨ w.heap.size ≤ k_)) u9000_ r2 ∧ Below w0.heap.size w0 w' ∧ Kept w w' (fun k_ => P0_ k_) := by
 have HO0 := am (show Kd.R (Kd.int .i64) 2 w w0.heap.size (fun k_ => (P0_ k_ ∨ w.heap.size ≤ k_)) u9000_ l0 from Kd.R_mono ho0 (fun k_ hk => (.inl hk)))
 have HK := am (Kept.refl w (fun k_ => P0_ k_))
 have HW0 := am hB.size
 have HB := am hB
 clear hB
 have H : (laws_markInt64S.l0 k l0 a1 0) = some (r1, r2) := h
 clear h
 have H' := am H
 clear H
 go_enter Try.func64, Try.ntmps64
 go_wp2
 go_loopg [1, 5] k (fun kq v1 v5 w' => ∃ (x0_1 : List Int) (x1_1 : Int) (x5_1 : Int), v1 = .int .i64 x1_1 ∧ v5 = .int .i64 x5_1 ∧ Aside0 (laws_markInt64S.l0 kq x0_1 x1_1 x5_1 = some (r1, r2)) ∧ Aside0 (kq ≤ k) ∧ Aside0 (Kd.R (Kd.int .i64) 2 w' w0.heap.size (fun k_ => (P0_ k_ ∨ w.heap.size ≤ k_)) u9000_ x0_1) ∧ Aside0 (Kept w w' (fun k_ => P0_ k_)) ∧ Aside0 (Below w0.heap.size w0 w'))
 case atStart => exact ⟨(l0), (a1), (0), (by rfl), (by rfl), H', ⟨Nat.le_refl _⟩, ⟨by (with_reducible repeat (apply Kd.R_drew)); exact HO0.out⟩, ⟨by repeat ((with_reducible exact HK.out))⟩, ⟨by repeat ((with_reducible exact HB.out))⟩⟩
 case round =>
  clear H'
  try clear p2
  obtain ⟨x0_1, x1_1, x5_1, rfl, rfl, HA, HK1, HO_0, HK, HB⟩ := hrel
  cases gk with
  | zero => exact absurd HA.out (by simp [laws_markInt64S.l0])
  | succ k1 =>
   have H := HA.out
   clear HA
   simp only [laws_markInt64S.l0] at H
   by_cases c3 : x5_1 < (x0_1.length : Int)
   · rw [if_pos c3] at H
     have c3b0 : decide (x5_1 < (x0_1.length : Int)) = true := decide_eq_true c3
     clear c3
     by_cases c4 : 0 ≤ x5_1
     · rw [if_pos c4] at H
       have c4b0 : decide (0 ≤ x5_1) = true := decide_eq_true c4
       clear c4
       obtain ⟨y336, hy336⟩ : ∃ y_ : List Int, y_ = (x0_1.set (x5_1 : Int).toNat x1_1) := ⟨_, rfl⟩
       replace H : (laws_markInt64S.l0 k1 y336 (wrap64 (x1_1 + 1)) (wrap64 (x5_1 + 1))) = some (r1, r2) := by (rw [hy336]; with_reducible exact H)
       have Ny336 := am hy336
       clear hy336
       have H' := am H
       clear H
       obtain ⟨Ao6, co6, eo6⟩ := Kd.R_slice HO_0.out
       subst eo6
       have p5 : 0 ≤ (x5_1 : Int) := of_decide_eq_true (by (with_reducible assumption))
       have q5 : (x5_1 : Int) < ((x0_1.length : Int) : Int) := of_decide_eq_true (by (with_reducible assumption))
       obtain ⟨go5, co5, eo5, gb5, gl5, cl5, HG5⟩ := Kd.R_form HO_0.out (by omega)
       (cases eo5)
       have GB5 := am gb5
       have GG5 := am HG5
       clear gb5 gl5 HG5
       have HMgo5 := am (show (P0_ go5 ∨ w.heap.size ≤ go5) from (HO_0.out.1 _ rfl))
       obtain ⟨hx5_0, hf5_0⟩ := Kd.R_celln 0 HO_0.out (x5_1 : Int) p5 q5
       replace p5 := eq_true p5
       replace q5 := eq_true q5
       have HP7 := Kd.R_putg HO_0.out (x5_1 : Int) x1_1
       go_wp2_with (((with_reducible refine gate_store (t := 2) (p := 15) rfl ?_); refine store_event (t := 2) (p := 15) (v := ?vo_w8) (w1 := (wr.setCell ⟨go5, (x5_1 : Int).toNat, none⟩ (.int .i64 x1_1))) ?hg ?ho ?hn ?hr ?_; (case ho => rfl); (case hg => rfl); (case hn => rfl); (case hr => (go_simp; done)); intro w8 hw; have hg : wr.grownBy w8 (some go5) := (by rw [hw]; exact HP7.2); have hp_ : Kd.R (Kd.int .i64) 2 w8 w0.heap.size (fun k_ => (P0_ k_ ∨ w.heap.size ≤ k_)) (.slice (some ⟨go5, 0, none⟩) x0_1.length co6) y336 := (by rw [hw, Ny336.out]; exact HP7.1); clear HP7; have n0_ := am (hp_); have n1_ := am ((by rw [hw]; exact below_set (HB.out) GB5.out : Below w0.heap.size w0 w8)); have n2_ := am (Kept.of_grown (S := (fun k_ => P0_ k_)) hg (by repeat ((with_reducible exact HK.out))) (fun k_ e_ => (HO_0.out.1 k_ e_))); clear HO_0; clear HB; clear HK; have HO_0 := n0_; have HB := n1_; have HK := n2_; clear n0_ n1_ n2_; clear hg hw hp_))
       go_roundg k1
       case measure => have := HK1.out; omega
       case rel => exact ⟨(y336), (wrap64 (x1_1 + 1)), (wrap64 (x5_1 + 1)), (by rfl), (by rfl), H', ⟨by have := HK1.out; omega⟩, ⟨by (with_reducible repeat (apply Kd.R_drew)); exact HO_0.out⟩, ⟨by repeat ((with_reducible exact HK.out))⟩, ⟨by repeat ((with_reducible exact HB.out))⟩⟩
     · rw [if_neg c4] at H
       exact absurd H (by simp)
   · rw [if_neg c3] at H
     have c3b0 : decide (x5_1 < (x0_1.length : Int)) = false := decide_eq_false c3
     clear c3
     simp only [Option.some.injEq, Prod.mk.injEq] at H
     obtain ⟨rfl, rfl⟩ := H
     obtain ⟨Ao9, co9, eo9⟩ := Kd.R_slice HO_0.out
     subst eo9
     go_wp2
     go_ret
     exact ⟨by rfl, by (with_reducible repeat (apply Kd.R_drew)); exact HO_0.out, by repeat ((with_reducible exact HB.out)), by repeat ((with_reducible exact HK.out))⟩
end Go.Proofs.Ytgcgeoglhebonaa.P
end
section
namespace Go.Proofs.Ytgcgeoglhebonaa.P
open Go.RowKit Go.Proofs.YtgcgeoglhebonaaW.PrintWords Go.Proofs.YtgcgeoglhebonaaW.PrintLast
set_option linter.unusedVariables false
set_option linter.unusedSimpArgs false
theorem szI (l : List Int) (a : Int) (h0 : 0 ≤ a) (h1 : a ≤ 1048576) (hl : l.length ≤ 9223372036854775807) : ∃ s, laws_szInt64S.f l a = some s ∧ (s < 0 ∨ (0 ≤ s ∧ s ≤ a ∧ (l.length : Int) ≤ a)) := by
 have e : wrap64 (a - (l.length : Int)) = a - (l.length : Int) := by unfold wrap64; omega
 unfold laws_szInt64S.f
 rw [e]
 by_cases h : a - (l.length : Int) < 0
 · exact ⟨-1, by rw [if_pos h], .inl (by omega)⟩
 · exact ⟨a - (l.length : Int), by rw [if_neg h], .inr (by omega)⟩
theorem fill_set {α : Type} (z x : α) (l : List α) (i d : Nat) (hi : l.length = i) : (l ++ List.replicate (d + 1) z).set i x = (l ++ [x]) ++ List.replicate d z := by
 subst hi
 rw [List.set_append_right _ _ (Nat.le_refl _), Nat.sub_self, List.replicate_succ, List.set_cons_zero, List.append_assoc]
 rfl
theorem toI_l0 (l : List Int) (hn : l.length ≤ 1000000000000) : ∀ (d i : Nat), i + d = l.length → Ev (fun k => laws_toInt64S.l0 k l (l.take i ++ List.replicate d 0) (i : Int)) l := by
 intro d
 induction d with
 | zero =>
  intro i hi
  refine Ev.step (fun k => by rw [laws_toInt64S.l0]) ?_
  simp only [if_neg (show ¬ ((i : Int) < (l.length : Int)) by omega)]
  exact ev_val (by rw [List.take_of_length_le (by omega)]; simp)
 | succ d ih =>
  intro i hi
  refine Ev.step (fun k => by rw [laws_toInt64S.l0]) ?_
  have hl : (l.take i).length = i := by simp; omega
  have hs : (l.take i ++ List.replicate (d + 1) (0 : Int)).length = l.length := by simp; omega
  simp only [if_pos (show ((i : Int) < (l.length : Int)) by omega), if_pos (show (0 : Int) ≤ (i : Int) by omega), hs, Int.toNat_natCast, fill_set (0 : Int) (rd l (i : Int)) (l.take i) i d hl, wr1 i l.length (by omega) (by omega)]
  rw [← take_succ_rd l i (by omega)]
  exact ih (i + 1) (by omega)
theorem ev_toI (l : List Int) (hn : l.length ≤ 1000000000000) : Ev (fun k => laws_toInt64S.f k l) l := by
 unfold laws_toInt64S.f
 simp only [if_pos (show (0 : Int) ≤ (l.length : Int) by omega), Int.toNat_natCast, if_pos (show l.length ≤ 35184372088832 by omega)]
 have := toI_l0 l hn l.length 0 (by omega)
 simpa using this
theorem eqI_l0 (l : List Int) (hn : l.length ≤ 1000000000000) : ∀ (d i : Nat), i + d = l.length → Ev (fun k => laws_eqInt64S.l0 k l l (i : Int)) true := by
 intro d
 induction d with
 | zero =>
  intro i hi
  refine Ev.step (fun k => by rw [laws_eqInt64S.l0]) ?_
  simp only [if_neg (show ¬ ((i : Int) < (l.length : Int)) by omega)]
  exact Ev.now _
 | succ d ih =>
  intro i hi
  refine Ev.step (fun k => by rw [laws_eqInt64S.l0]) ?_
  simp only [if_pos (show ((i : Int) < (l.length : Int)) by omega), if_pos (show (0 : Int) ≤ (i : Int) by omega), if_true, wr1 i l.length (by omega) (by omega)]
  exact ih (i + 1) (by omega)
theorem ev_eqI (l : List Int) (hn : l.length ≤ 1000000000000) : Ev (fun k => laws_eqInt64S.f k l l) true := by
 unfold laws_eqInt64S.f
 simp only [if_true]
 exact eqI_l0 l hn l.length 0 (by omega)
end Go.Proofs.Ytgcgeoglhebonaa.P
end
section
namespace Go.Proofs.Ytgcgeoglhebonaa.P
open Go.RowKit Go.Maps Go.Proofs.YtgcgeoglhebonaaW.PrintWords Go.Proofs.YtgcgeoglhebonaaW.PrintLast Go.Proofs.YtgcgeoglhebonaaW.PrintMore
set_option linter.unusedVariables false
set_option linter.unusedSimpArgs false
def mets : List Int → List Int → List Int
 | met, [] => met
 | met, x :: l => mets (if x ∈ met then met else met ++ [x]) l
def nrmFrom : List Int → List Int → List Int
 | _, [] => []
 | met, x :: l => (met.idxOf x : Int) :: nrmFrom (if x ∈ met then met else met ++ [x]) l
def nrm (l : List Int) : List Int := nrmFrom [] l
theorem nrmFrom_length : ∀ (l met : List Int), (nrmFrom met l).length = l.length
 | [], _ => rfl
 | x :: l, met => by simp [nrmFrom, nrmFrom_length l]
theorem nrm_length (l : List Int) : (nrm l).length = l.length := nrmFrom_length l []
theorem mets_snoc : ∀ (l : List Int) (x : Int) (met : List Int), mets met (l ++ [x]) = if x ∈ mets met l then mets met l else mets met l ++ [x]
 | [], x, met => rfl
 | y :: l, x, met => mets_snoc l x _
theorem nrmFrom_snoc : ∀ (l : List Int) (x : Int) (met : List Int), nrmFrom met (l ++ [x]) = nrmFrom met l ++ [((mets met l).idxOf x : Int)]
 | [], x, met => rfl
 | y :: l, x, met => by simp [nrmFrom, mets, nrmFrom_snoc l x _]
def namesKV (met : List Int) : List (Int × Int) := met.zipIdx.map fun p => (p.1, (p.2 : Int))
theorem namesKV_snoc (met : List Int) (x : Int) : namesKV (met ++ [x]) = namesKV met ++ [(x, (met.length : Int))] := by simp [namesKV, List.zipIdx_append]
theorem namesKV_length (met : List Int) : (namesKV met).length = met.length := by simp [namesKV]
theorem namesKV_get (met : List Int) (x : Int) : kvGet (namesKV met) x = if x ∈ met then some (met.idxOf x : Int) else none := by
 suffices h : ∀ (met : List Int) (n : Nat), kvGet ((met.zipIdx n).map fun p => (p.1, (p.2 : Int))) x = if x ∈ met then some ((met.idxOf x + n : Nat) : Int) else none by simpa [namesKV] using h met 0
 intro met
 induction met with
 | nil => intro n; rfl
 | cons y met ih =>
  intro n
  simp only [List.zipIdx_cons, List.map_cons, kvGet_cons]
  by_cases h : y = x
  · subst h; simp [List.idxOf_cons]
  · rw [if_neg h, ih]
    have hb : (y == x) = false := by simpa using h
    by_cases hx : x ∈ met
    · simp [hx, List.idxOf_cons, hb]; omega
    · simp [hx, Ne.symm h]
theorem namesKV_put (met : List Int) (x : Int) (h : x ∉ met) : kvPut (namesKV met) x (met.length : Int) = namesKV (met ++ [x]) := by
 rw [kvPut_none _ (by rw [namesKV_get, if_neg h]), namesKV_snoc]
theorem mets_len : ∀ (l met : List Int), (mets met l).length ≤ met.length + l.length
 | [], met => Nat.le_refl _
 | x :: l, met => by
  have := mets_len l (if x ∈ met then met else met ++ [x])
  simp only [mets, List.length_cons]
  split at this <;> simp_all <;> omega
theorem normal_any (A0 : Option Addr) (c0 : Nat) (l0 : List Int) (w : World) (hr0 : Kd.C (Kd.int .i64) w A0 l0.length l0) (hc0 : l0.length ≤ c0) (hs0 : l0.length ≤ 1000000) :
 Calls Try.prog 92 #[.slice A0 l0.length c0] w fun e w' => ∃ v0_ : Value, e = .returned (v0_) ∧ Kd.R (Kd.int .i64) 2 w' w.heap.size (fun _ => True) v0_ (nrm l0) ∧ Below w.heap.size w w' := by
 have HR0 := am hr0
 have HC0 := am hc0
 clear hr0 hc0
 have hmm := @run_makeMap Try.prog
 go_enter Try.func92, Try.ntmps92
 go_wp2_with (first
  | ((with_reducible refine gate_dst (N := 10) rfl ?_); refine litI (w := w) 10 rfl rfl [] (fun _ => True) ?hr trivial ((Below.refl _ _).alloc (Nat.le_refl _) _) (by simp) ?_; (case hr => first | (go_simp; done) | (go_simp; rfl)); intro v1 w1 ho hb hg hnew)
  | go_in)
 have HM := am ((mapKV_made w (Value.int .i64)).kept hg (by simp))
 have HO := am ho
 have HB := am hb
 clear ho hb hg hnew
 go_loopw [13, 4] (fun i v wr => ∃ k : Nat, k ≤ l0.length ∧ i = .int .i64 k ∧ Aside0 (mapKV wr (Value.int .i64) w.heap.size (evI (namesKV (mets [] (l0.take k))))) ∧ Aside0 (Kd.R (Kd.int .i64) 2 wr w.heap.size (fun _ => True) v (nrm (l0.take k))) ∧ Aside0 (Below w.heap.size w wr))
  (fun i _ _ => l0.length - (intOf i).toNat)
 case atStart => exact ⟨0, Nat.zero_le _, rfl, HM, HO, HB⟩
 case round =>
  obtain ⟨k, hk, rfl, HM, HO, HB⟩ := hrel
  by_cases hlt : k < l0.length
  · obtain ⟨ad, e0, hx⟩ := Kd.at_int (Kd.C_below HR0.out HB.out) (k : Int) (by omega) (by omega)
    cases e0
    have hs := take_succ_rd l0 k hlt
    rw [Int.toNat_natCast] at hx
    generalize rd l0 (k : Int) = x at *
    have hml := mets_len (l0.take k) []
    have hnl := nrm_length (l0.take k)
    have hm1 := mets_snoc (l0.take k) x []
    have hn1 := nrmFrom_snoc (l0.take k) x []
    rw [← hs] at hm1 hn1
    have hn1' : nrm (l0.take (k + 1)) = nrm (l0.take k) ++ [((mets [] (l0.take k)).idxOf x : Int)] := hn1
    clear hs hn1
    generalize hmet : mets [] (l0.take k) = met at *
    generalize hnrm : nrm (l0.take k) = out at *
    have hml' : met.length ≤ 1000000 := by simp at hml; omega
    have hol : out.length ≤ 1000000 := by rw [hnl]; simp; omega
    have HN1 := am hn1'
    have HM1 := am hm1
    clear hn1' hm1 hmet hnrm hml hnl
    by_cases hmem : x ∈ met
    · have hg : (kvGet (evI (namesKV met)) x).getD (.int .i64 0) = .int .i64 (met.idxOf x : Int) := by rw [evI_get, namesKV_get, if_pos hmem]; rfl
      have hok : (kvGet (evI (namesKV met)) x).isSome = true := by rw [evI_get, namesKV_get, if_pos hmem]; rfl
      have HG := am hg
      have HK := am hok
      have HX := am hmem
      clear hg hok hmem
      go_wp2_with (first
       | (at_lookup; refine wpList_lookup_kv_ok rfl _ _ 102 rfl 2 2 (Value.int .i64) keyI64 Try.underlying102 (.int .i64 0) (zeroI64 _) w.heap.size _ rfl HM.out x rfl (.int .i64 (met.idxOf x : Int)) true HG.out HK.out ?_)
       | (at_builtin; go_must (refine appI rfl (.tmp 30) (.tmp 32) rfl u4 out (met.idxOf x : Int) (fun _ => True) rfl rfl HO.out (fun _ _ => trivial) HB.out (by omega) ?_); intro v2 w1 ho hb hg hat)
       | go_in)
      go_roundw
      case rel => exact ⟨k + 1, by omega, by go_num, ⟨by rw [HM1.out, if_pos HX.out]; exact map_of_row HM.out HO.out hg⟩, ⟨by rw [HN1.out]; exact ho⟩, ⟨hb⟩⟩
      case measure => simp [intOf]; omega
    · have hg : (kvGet (evI (namesKV met)) x).getD (.int .i64 0) = .int .i64 0 := by rw [evI_get, namesKV_get, if_neg hmem]; rfl
      have hok : (kvGet (evI (namesKV met)) x).isSome = false := by rw [evI_get, namesKV_get, if_neg hmem]; rfl
      have hln : (evI (namesKV met)).length = met.length := by simp [evI, namesKV_length]
      have HI := am (show met.idxOf x = met.length from List.idxOf_eq_length hmem)
      have HG := am hg
      have HK := am hok
      have HX := am hmem
      have HL := am hln
      clear hg hok hmem hln
      go_wp2_with (first
       | (at_lookup; refine wpList_lookup_kv_ok rfl _ _ 102 rfl 2 2 (Value.int .i64) keyI64 Try.underlying102 (.int .i64 0) (zeroI64 _) w.heap.size _ rfl HM.out x rfl (.int .i64 0) false HG.out HK.out ?_)
       | (at_len; refine wpList_len_kv rfl _ 102 rfl 2 2 Try.underlying102 (Value.int .i64) w.heap.size _ rfl HM.out ?_; rw [HL.out])
       | (at_mapUpdate; refine wpList_mapUpdate_kv rfl _ _ _ 102 rfl 2 2 (Value.int .i64) keyI64 Try.underlying102 w.heap.size _ rfl HM.out x rfl (.int .i64 met.length) ?hv ?_; (case hv => rfl); intro w1 hm1 hg1 hs1; have HO1 := am (row_of_map HO.out HM.out hg1); have HB1 := am (HB.out.grown hg1 HB.out.size (fun j hj => by cases hj; exact Nat.le_refl _)); have HM1' := am hm1; clear hm1 hg1 hs1)
       | (at_builtin; go_must (refine appI rfl (.tmp 30) (.tmp 32) rfl u4 out (met.length : Int) (fun _ => True) rfl rfl HO1.out (fun _ _ => trivial) HB1.out (by omega) ?_); intro v2 w2 ho hb hg hat)
       | go_in)
      go_roundw
      case rel => exact ⟨k + 1, by omega, by go_num, ⟨by rw [HM1.out, if_neg HX.out, ← namesKV_put met x HX.out, ← evI_put]; exact map_of_row HM1'.out HO1.out hg⟩, ⟨by rw [HN1.out, HI.out]; exact ho⟩, ⟨hb⟩⟩
      case measure => simp [intOf]; omega
  · obtain rfl : k = l0.length := by omega
    go_wp2
    go_ret
    rw [List.take_length] at HO
    exact ⟨_, rfl, HO.out, HB.out⟩
def impl_normal.f (l0 : List Int) : Option (List Int) := if l0.length ≤ 1000000 then some (nrm l0) else none
theorem impl_normal.calls (A0 : Option Addr) (c0 : Nat) (l0 : List Int) (r : List Int) (w : World) (hr0 : Kd.C (Kd.int .i64) w A0 l0.length l0) (hc0 : l0.length ≤ c0) (h : impl_normal.f l0 = some r) :
 Calls Try.prog 92 #[.slice A0 l0.length c0] w fun e w' => ∃ v0_ : Value, e = .returned (v0_) ∧ Kd.R (Kd.int .i64) 2 w' w.heap.size (fun _ => True) v0_ r ∧ Below w.heap.size w w' := by
 unfold impl_normal.f at h
 by_cases hl : l0.length ≤ 1000000
 · rw [if_pos hl] at h
   obtain rfl := Option.some.inj h
   exact normal_any A0 c0 l0 w hr0 hc0 hl
 · rw [if_neg hl] at h
   cases h
end Go.Proofs.Ytgcgeoglhebonaa.P
end
section
namespace Go.Proofs.Ytgcgeoglhebonaa.P
open Go.RowKit Go.Maps Go.Proofs.YtgcgeoglhebonaaW.PrintWords Go.Proofs.YtgcgeoglhebonaaW.PrintLast Go.Proofs.YtgcgeoglhebonaaW.PrintMore
set_option linter.unusedVariables false
set_option linter.unusedSimpArgs false
def cntKV : List Int → List (Int × Int) → List (Int × Int)
 | [], kv => kv
 | x :: l, kv => cntKV l (kvPut kv x ((kvGet kv x).getD 0 + 1))
def twiceB (l : List Int) : Bool := l.all fun x => decide (l.count x = 2)
theorem cntKV_snoc : ∀ (l : List Int) (x : Int) (kv : List (Int × Int)), cntKV (l ++ [x]) kv = kvPut (cntKV l kv) x ((kvGet (cntKV l kv) x).getD 0 + 1)
 | [], x, kv => rfl
 | y :: l, x, kv => cntKV_snoc l x _
theorem cntKV_get (l : List Int) : ∀ (x : Int), kvGet (cntKV l []) x = if l.count x = 0 then none else some (l.count x : Int) := by
 suffices h : ∀ (n : Nat) (l : List Int), l.length = n → ∀ x, kvGet (cntKV l []) x = if l.count x = 0 then none else some (l.count x : Int) from h _ l rfl
 intro n
 induction n with
 | zero => intro l hl x; obtain rfl := List.eq_nil_of_length_eq_zero hl; simp [cntKV, kvGet_nil]
 | succ n ih =>
  intro l hl x
  have hne : l ≠ [] := by intro h; rw [h] at hl; simp at hl
  obtain ⟨d, y, rfl⟩ : ∃ d y, l = d ++ [y] := ⟨_, _, (List.dropLast_concat_getLast hne).symm⟩
  have hdl : d.length = n := by simp at hl; omega
  rw [cntKV_snoc]
  have iy := ih d hdl y
  by_cases hxy : x = y
  · subst hxy
    rw [kvGet_put_same, iy]
    simp only [List.count_append, List.count_singleton_self]
    by_cases h0 : d.count x = 0 <;> simp [h0]
  · rw [kvGet_put_other _ _ _ _ hxy, ih d hdl x]
    have : List.count x [y] = 0 := by simp [List.count_cons, Ne.symm hxy]
    simp [List.count_append, this]
theorem cntKV_keys (l : List Int) (kv : List (Int × Int)) (h : kv.Pairwise (fun a b => a.1 ≠ b.1)) : (cntKV l kv).Pairwise (fun a b => a.1 ≠ b.1) := by
 induction l generalizing kv with
 | nil => exact h
 | cons x l ih => exact ih _ (kvPut_keys kv x _ h)
theorem cntKV_val (l : List Int) (p : Int × Int) (hp : p ∈ cntKV l []) : p.2 = l.count p.1 ∧ p.1 ∈ l := by
 have h := kvGet_of_mem (cntKV_keys l [] List.Pairwise.nil) hp
 rw [cntKV_get] at h
 by_cases h0 : l.count p.1 = 0
 · simp [h0] at h
 · rw [if_neg h0] at h
   exact ⟨(Option.some.inj h).symm, List.count_pos_iff.1 (by omega)⟩
theorem cntKV_mem (l : List Int) (x : Int) (hx : x ∈ l) : (x, (l.count x : Int)) ∈ cntKV l [] := by
 have : l.count x ≠ 0 := by have := List.count_pos_iff.2 hx; omega
 exact mem_of_kvGet (by rw [cntKV_get, if_neg this])
theorem twice_any (A0 : Option Addr) (c0 : Nat) (l0 : List Int) (w : World) (hr0 : Kd.C (Kd.int .i64) w A0 l0.length l0) (hc0 : l0.length ≤ c0) :
 Calls Try.prog 91 #[.slice A0 l0.length c0] w fun e w' => e = .returned (.bool (twiceB l0)) ∧ Below w.heap.size w w' := by
 have HR0 := am hr0
 have HC0 := am hc0
 have hlen : l0.length ≤ 9223372036854775807 := hr0.2.1
 clear hr0 hc0
 have hmm := @run_makeMap Try.prog
 go_enter Try.func91, Try.ntmps91
 go_wp2
 go_loopw [11] (fun i wr => ∃ k : Nat, k ≤ l0.length ∧ i = .int .i64 k ∧ Aside0 (mapKV wr (Value.int .i64) w.heap.size (evI (cntKV (l0.take k) []))) ∧ Aside0 (Below w.heap.size w wr))
  (fun i _ => l0.length - (intOf i).toNat)
 case atStart => exact ⟨0, Nat.zero_le _, rfl, ⟨mapKV_made _ _⟩, ⟨(Below.refl _ _).alloc (Nat.le_refl _) _⟩⟩
 case round =>
  obtain ⟨k, hk, rfl, HM, HB⟩ := hrel
  by_cases hlt : k < l0.length
  · obtain ⟨ad, e0, hx⟩ := Kd.at_int (Kd.C_below HR0.out HB.out) (k : Int) (by omega) (by omega)
    cases e0
    have hs := take_succ_rd l0 k hlt
    rw [Int.toNat_natCast] at hx
    obtain ⟨x, ex⟩ : ∃ x, x = rd l0 (k : Int) := ⟨_, rfl⟩
    rw [← ex] at hx hs
    have HS := am hs
    clear hs ex
    obtain ⟨c, ec⟩ : ∃ c, c = (kvGet (cntKV (l0.take k) []) x).getD 0 := ⟨_, rfl⟩
    have hg : (kvGet (evI (cntKV (l0.take k) [])) x).getD (.int .i64 0) = .int .i64 c := by rw [evI_get, ec]; cases kvGet (cntKV (l0.take k) []) x <;> rfl
    have hcb : 0 ≤ c ∧ c ≤ (k : Int) := by
     rw [ec, cntKV_get]
     have h1 : (l0.take k).count x ≤ k := Nat.le_trans List.count_le_length (by simp; omega)
     by_cases h0 : (l0.take k).count x = 0
     · simp [h0]
     · simp only [if_neg h0, Option.getD_some]; omega
    have hc1 : 0 ≤ c := hcb.1
    have hc2 : c ≤ (k : Int) := hcb.2
    have HG := am hg
    have EC := am ec
    clear hg ec hcb
    go_wp2_with (first
     | (at_lookup; refine wpList_lookup_kv rfl _ _ 101 rfl 2 3 (Value.int .i64) keyI64 Try.underlying101 (.int .i64 0) (zeroI _) w.heap.size _ rfl HM.out x rfl (.int .i64 c) HG.out ?_)
     | (at_mapUpdate; refine wpList_mapUpdate_kv rfl _ _ _ 101 rfl 2 3 (Value.int .i64) keyI64 Try.underlying101 w.heap.size _ rfl HM.out x rfl (.int .i64 (c + 1)) ?hv ?_; (case hv => rfl); intro w1 hm1 hg1 hs1)
     | go_in)
    go_roundw
    case rel => exact ⟨k + 1, by omega, by go_num, ⟨by rw [HS.out, cntKV_snoc, ← EC.out, ← evI_put]; exact hm1⟩, ⟨HB.out.grown hg1 HB.out.size (fun j hj => by cases hj; exact Nat.le_refl _)⟩⟩
    case measure => simp [intOf]; omega
  · have HK := am (show k = l0.length by omega)
    go_wp2_with (first
     | (at_range; refine wpList_range_kv rfl _ 101 rfl 2 3 Try.underlying101 (Value.int .i64) w.heap.size _ rfl HM.out ?_; intro w0 hrg0 hg0 hs0)
     | go_in)
    go_frame
    have HM2 := am hrg0
    have HB2 := am (HB.out.grown hg0 HB.out.size (fun j hj => by cases hj))
    have HL := am (show cntKV (l0.take k) [] = cntKV l0 [] by rw [HK.out, List.take_length])
    have HW := am (show w.heap.size < wr.heap.size from HM.out.lt)
    clear hrg0 hg0 hs0 HM HB HK
    generalize wr.heap.size = R at *
    go_loopg [22] (cntKV l0 []).length (fun n _ wx => ∃ left, Aside0 (left.length = n) ∧ Aside0 (rangeKV wx (Value.int .i64) w.heap.size R (evI (cntKV l0 [])) left) ∧ Aside0 (∀ p ∈ cntKV l0 [], p.2 = 2 ∨ (p.1, Value.int .i64 p.2) ∈ left) ∧ Aside0 (Below w.heap.size w wx))
    case atStart => exact ⟨evI (cntKV l0 []), ⟨by simp [evI]⟩, ⟨by have := HM2.out; rw [HL.out] at this; exact this⟩, ⟨fun p hp => .inr (List.mem_map.2 ⟨p, hp, rfl⟩)⟩, HB2⟩
    case round =>
     obtain ⟨left, HN, HR, HF, HB⟩ := hrel
     clear HM2 HB2
     have hne : w.heap.size ≠ R := by have := HW.out; omega
     have HNE := am hne
     clear hne
     go_wp2_with (first
      | (at_next; refine wpList_next_kv rfl _ rfl 2 (Value.int .i64) intEnc_inj w.heap.size R _ _ HNE.out rfl HR.out ?_ ?_)
      | go_in)
     · intro hl
       have HE := am hl
       clear hl
       go_wp2
       go_ret
       refine ⟨?_, HB.out⟩
       have : twiceB l0 = true := by
        refine List.all_eq_true.2 fun x hx => ?_
        rcases HF.out _ (cntKV_mem l0 x hx) with h | h
        · simp at h ⊢; omega
        · rw [HE.out] at h; cases h
       rw [this]
       rfl
     · intro x v w1 hp hpk hr1 hg1 hs1 hen
       obtain ⟨⟨x', c⟩, hq, hqe⟩ := List.mem_map.1 hpk
       obtain ⟨rfl, rfl⟩ := Prod.mk.inj hqe
       have hv := cntKV_val l0 _ hq
       have HP := am hp
       have HR1 := am hr1
       have HB1 := am (HB.out.grown hg1 (by have := HR.out.owns.lt; omega) (fun j hj => by cases hj; have := HW.out; omega))
       have HV := am hv
       clear hp hr1 hg1 hs1 hv hq hpk
       by_cases h2 : c = 2
       · have hb2 : (c != 2) = false := by simp [h2]
         have H2 := am h2
         clear h2
         go_wp2
         go_roundg (left.filter fun q => !decide (q.1 = x')).length
         case measure => exact Nat.lt_of_lt_of_le (len_filter_lt (p := (x', Value.int .i64 c)) HP.out) (Nat.le_of_eq HN.out)
         case rel => exact ⟨_, ⟨rfl⟩, HR1, ⟨fun p hp => by
          rcases HF.out p hp with h | h
          · exact .inl h
          · by_cases hx : p.1 = x'
            · have h1 := cntKV_val l0 p hp
              rw [hx, ← HV.out.1, H2.out] at h1
              exact .inl h1.1
            · exact .inr (List.mem_filter.2 ⟨h, by simpa using hx⟩)⟩, HB1⟩
       · have hb2 : (c != 2) = true := by simp [h2]
         have H2 := am h2
         clear h2
         go_wp2
         go_ret
         refine ⟨?_, HB1.out⟩
         have : twiceB l0 = false := by
          refine List.all_eq_false.2 ⟨x', HV.out.2, ?_⟩
          have h1 := HV.out.1
          have h2 := H2.out
          simp only [decide_eq_true_eq]
          intro h
          rw [h] at h1
          exact h2 h1
         rw [this]
         rfl
def impl_twice.f (l0 : List Int) : Option Bool := some (twiceB l0)
theorem impl_twice.calls (A0 : Option Addr) (c0 : Nat) (l0 : List Int) (r : Bool) (w : World) (hr0 : Kd.C (Kd.int .i64) w A0 l0.length l0) (hc0 : l0.length ≤ c0) (h : impl_twice.f l0 = some r) :
 Calls Try.prog 91 #[.slice A0 l0.length c0] w fun e w' => e = .returned (.bool r) ∧ Below w.heap.size w w' := by
 obtain rfl := Option.some.inj h
 exact twice_any A0 c0 l0 w hr0 hc0
end Go.Proofs.Ytgcgeoglhebonaa.P
end
section
namespace Go.Proofs.Ytgcgeoglhebonaa.P
open Go.RowKit Go.Proofs.YtgcgeoglhebonaaW.PrintWords Go.Proofs.YtgcgeoglhebonaaW.PrintLast Go.Proofs.YtgcgeoglhebonaaW.PrintMore
attribute [local go_sem] max2_int min2_int max_two min_two max_three min_three max_four min_four   -- for this text's walks alone
set_option linter.unusedVariables false
set_option linter.unusedSimpArgs false
def laws_heldInt64S.l0 : Nat → List Int → Int → Int → Option (Int)
 | 0, _, _, _ => none
 | k + 1, x0, x1, x5 => if x5 < (x0.length : Int) then (if 0 ≤ x5 then (if (rd x0 x5) = x1 then (laws_heldInt64S.l0 k x0 (wrap64 (x1 + 1)) (wrap64 (x5 + 1))) else (some (-1))) else (none)) else (some x1)
def laws_heldInt64S.f (k : Nat) (l0 : List Int) (a1 : Int) : Option (Int) := laws_heldInt64S.l0 k l0 a1 0
theorem laws_heldInt64S.calls (k : Nat) (A0 : Option Addr) (c0 : Nat) (l0 : List Int) (a1 : Int) (r : Int) (w : World) (hr0 : Kd.C (Kd.int .i64) w A0 l0.length l0) (hc0 : l0.length ≤ c0) (h : laws_heldInt64S.f k l0 a1 = some r) :
 Calls Try.prog 65 #[.slice A0 l0.length c0, .int .i64 a1] w fun e w' => e = .returned (.int .i64 r) ∧ Drawn0 w w' := by
 have HR0 := am hr0
 have HC0 := am hc0
 clear hr0 hc0
 have H : (laws_heldInt64S.l0 k l0 a1 0) = some r := h
 clear h
 have H' := am H
 clear H
 go_enter Try.func65, Try.ntmps65
 go_wp2
 go_loopg [1, 5] k (fun kq v1 v5 w' => ∃ (x1_1 : Int) (x5_1 : Int), v1 = .int .i64 x1_1 ∧ v5 = .int .i64 x5_1 ∧ Aside0 (laws_heldInt64S.l0 kq l0 x1_1 x5_1 = some r) ∧ Aside0 (kq ≤ k) ∧ Drawn0 w w')
 case atStart => exact ⟨(a1), (0), (by rfl), (by rfl), H', ⟨Nat.le_refl _⟩, by repeat (exact Drawn0.refl _)⟩
 case round =>
  clear H'
  try clear p2
  obtain ⟨x1_1, x5_1, rfl, rfl, HA, HK1, ⟨m1, rfl⟩⟩ := hrel
  cases gk with
  | zero => exact absurd HA.out (by simp [laws_heldInt64S.l0])
  | succ k1 =>
   have H := HA.out
   clear HA
   simp only [laws_heldInt64S.l0] at H
   by_cases c3 : x5_1 < (l0.length : Int)
   · rw [if_pos c3] at H
     have c3b0 : decide (x5_1 < (l0.length : Int)) = true := decide_eq_true c3
     clear c3
     by_cases c4 : 0 ≤ x5_1
     · rw [if_pos c4] at H
       have c4b0 : decide (0 ≤ x5_1) = true := decide_eq_true c4
       clear c4
       by_cases c5 : (rd l0 x5_1) = x1_1
       · rw [if_pos c5] at H
         have c5b0 : ((rd l0 x5_1) == x1_1) = true := beq_iff_eq.mpr c5
         have c5b1 : ((rd l0 x5_1) != x1_1) = false := bne_eq_false_iff_eq.mpr c5
         clear c5
         have H' := am H
         clear H
         have p339 : 0 ≤ (x5_1 : Int) := of_decide_eq_true (by (with_reducible assumption))
         have q339 : x5_1 < (l0.length : Int) := of_decide_eq_true (by (with_reducible assumption))
         obtain ⟨ad339, e339, hx339_0⟩ := Kd.at_int HR0.out x5_1 p339 q339
         cases e339
         replace p339 := eq_true p339
         replace q339 := eq_true q339
         go_wp2
         go_roundg k1
         case measure => have := HK1.out; omega
         case rel => exact ⟨(wrap64 (x1_1 + 1)), (wrap64 (x5_1 + 1)), (by rfl), (by rfl), H', ⟨by have := HK1.out; omega⟩, by repeat (first | exact Drawn0.refl _ | apply Drawn0.step)⟩
       · rw [if_neg c5] at H
         have c5b0 : ((rd l0 x5_1) == x1_1) = false := beq_eq_false_iff_ne.mpr c5
         have c5b1 : ((rd l0 x5_1) != x1_1) = true := bne_iff_ne.mpr c5
         obtain rfl := Option.some.inj H
         have p339 : 0 ≤ (x5_1 : Int) := of_decide_eq_true (by (with_reducible assumption))
         have q339 : x5_1 < (l0.length : Int) := of_decide_eq_true (by (with_reducible assumption))
         obtain ⟨ad339, e339, hx339_0⟩ := Kd.at_int HR0.out x5_1 p339 q339
         cases e339
         replace p339 := eq_true p339
         replace q339 := eq_true q339
         go_wp2
         go_ret
         exact ⟨by rfl, by repeat (first | exact Drawn0.refl _ | apply Drawn0.step)⟩
     · rw [if_neg c4] at H
       exact absurd H (by simp)
   · rw [if_neg c3] at H
     have c3b0 : decide (x5_1 < (l0.length : Int)) = false := decide_eq_false c3
     clear c3
     obtain rfl := Option.some.inj H
     go_wp2
     go_ret
     exact ⟨by rfl, by repeat (first | exact Drawn0.refl _ | apply Drawn0.step)⟩
def laws_heldTermS.l0 : Nat → List (S65) → Int → Int → Option (Int)
 | 0, _, _, _ => none
 | k + 1, x0, x1, x5 => if x5 < (x0.length : Int) then (if 0 ≤ x5 then ((laws_heldInt64S.f k ((rd_T65 x0 x5).f0) x1).bind fun t341 => (if t341 < 0 then (some (-1)) else (if ((rd_T65 x0 x5).f1) = t341 then (laws_heldTermS.l0 k x0 (wrap64 (t341 + 1)) (wrap64 (x5 + 1))) else (some (-1))))) else (none)) else (some x1)
def laws_heldTermS.f (k : Nat) (l0 : List (S65)) (a1 : Int) : Option (Int) := laws_heldTermS.l0 k l0 a1 0
theorem laws_heldTermS.calls (k : Nat) (A0 : Option Addr) (c0 : Nat) (l0 : List (S65)) (a1 : Int) (r : Int) (w : World) (hr0 : Kd.C k65 w A0 l0.length l0) (hc0 : l0.length ≤ c0) (h : laws_heldTermS.f k l0 a1 = some r) :
 Calls Try.prog 30 #[.slice A0 l0.length c0, .int .i64 a1] w fun e w' => e = .returned (.int .i64 r) ∧ Drawn0 w w' := by
 have HR0 := am hr0
 have HC0 := am hc0
 clear hr0 hc0
 have H : (laws_heldTermS.l0 k l0 a1 0) = some r := h
 clear h
 have H' := am H
 clear H
 go_enter Try.func30, Try.ntmps30
 go_wp2
 go_loopg [1, 5] k (fun kq v1 v5 w' => ∃ (x1_1 : Int) (x5_1 : Int), v1 = .int .i64 x1_1 ∧ v5 = .int .i64 x5_1 ∧ Aside0 (laws_heldTermS.l0 kq l0 x1_1 x5_1 = some r) ∧ Aside0 (kq ≤ k) ∧ Drawn0 w w')
 case atStart => exact ⟨(a1), (0), (by rfl), (by rfl), H', ⟨Nat.le_refl _⟩, by repeat (exact Drawn0.refl _)⟩
 case round =>
  clear H'
  try clear p2
  obtain ⟨x1_1, x5_1, rfl, rfl, HA, HK1, ⟨m1, rfl⟩⟩ := hrel
  cases gk with
  | zero => exact absurd HA.out (by simp [laws_heldTermS.l0])
  | succ k1 =>
   have H := HA.out
   clear HA
   simp only [laws_heldTermS.l0] at H
   by_cases c3 : x5_1 < (l0.length : Int)
   · rw [if_pos c3] at H
     have c3b0 : decide (x5_1 < (l0.length : Int)) = true := decide_eq_true c3
     clear c3
     by_cases c4 : 0 ≤ x5_1
     · rw [if_pos c4] at H
       have c4b0 : decide (0 ≤ x5_1) = true := decide_eq_true c4
       clear c4
       replace H := Option.bind_eq_some_iff.mp H
       obtain ⟨t341, A50, H⟩ := H
       replace H : (if t341 < 0 then (some (-1)) else (if ((rd_T65 l0 x5_1).f1) = t341 then (laws_heldTermS.l0 k1 l0 (wrap64 (t341 + 1)) (wrap64 (x5_1 + 1))) else (some (-1)))) = some r := H
       have A5 := am A50
       clear A50
       by_cases c6 : t341 < 0
       · rw [if_pos c6] at H
         have c6b0 : decide (t341 < 0) = true := decide_eq_true c6
         clear c6
         obtain rfl := Option.some.inj H
         have p340 : 0 ≤ (x5_1 : Int) := of_decide_eq_true (by (with_reducible assumption))
         have q340 : x5_1 < (l0.length : Int) := of_decide_eq_true (by (with_reducible assumption))
         obtain ⟨ad340, A340_0, c340_0, e340, hx340_0, hx340_1, hl340_0, hi340_0⟩ := at_T65 HR0.out x5_1 p340 q340
         cases e340
         have HR340_0 := am hi340_0
         have HC340_0 := am hl340_0
         clear hi340_0 hl340_0
         replace p340 := eq_true p340
         replace q340 := eq_true q340
         go_wp2_with (((with_reducible refine gate_callee (f := 65) rfl ?_); refine goesL_ (some 18) rfl rfl Try.func65 (by kernel_rfl) rfl #[.slice A340_0 ((rd_T65 l0 x5_1).f0).length c340_0, .int .i64 x1_1] rfl (by (try simp only [List.map_toArray, List.map_cons, List.map_nil]); rfl) ?_; (with_reducible refine (laws_heldInt64S.calls k1 _ _ ((rd_T65 l0 x5_1).f0) x1_1 t341 _ ?side1 ?side2 A5.out).mono ?_); (case side1 => repeat (exact HR340_0.out)); (case side2 => exact HC340_0.out); rintro e w' ⟨rfl, ⟨nd, rfl⟩⟩; refine ⟨_, rfl, ?_⟩))
         go_ret
         exact ⟨by rfl, by repeat (first | exact Drawn0.refl _ | apply Drawn0.step)⟩
       · rw [if_neg c6] at H
         have c6b0 : decide (t341 < 0) = false := decide_eq_false c6
         clear c6
         by_cases c7 : ((rd_T65 l0 x5_1).f1) = t341
         · rw [if_pos c7] at H
           have c7b0 : (((rd_T65 l0 x5_1).f1) == t341) = true := beq_iff_eq.mpr c7
           have c7b1 : (((rd_T65 l0 x5_1).f1) != t341) = false := bne_eq_false_iff_eq.mpr c7
           clear c7
           have H' := am H
           clear H
           have p340 : 0 ≤ (x5_1 : Int) := of_decide_eq_true (by (with_reducible assumption))
           have q340 : x5_1 < (l0.length : Int) := of_decide_eq_true (by (with_reducible assumption))
           obtain ⟨ad340, A340_0, c340_0, e340, hx340_0, hx340_1, hl340_0, hi340_0⟩ := at_T65 HR0.out x5_1 p340 q340
           cases e340
           have HR340_0 := am hi340_0
           have HC340_0 := am hl340_0
           clear hi340_0 hl340_0
           replace p340 := eq_true p340
           replace q340 := eq_true q340
           go_wp2_with (((with_reducible refine gate_callee (f := 65) rfl ?_); refine goesL_ (some 18) rfl rfl Try.func65 (by kernel_rfl) rfl #[.slice A340_0 ((rd_T65 l0 x5_1).f0).length c340_0, .int .i64 x1_1] rfl (by (try simp only [List.map_toArray, List.map_cons, List.map_nil]); rfl) ?_; (with_reducible refine (laws_heldInt64S.calls k1 _ _ ((rd_T65 l0 x5_1).f0) x1_1 t341 _ ?side1 ?side2 A5.out).mono ?_); (case side1 => repeat (exact HR340_0.out)); (case side2 => exact HC340_0.out); rintro e w' ⟨rfl, ⟨nd, rfl⟩⟩; refine ⟨_, rfl, ?_⟩; have p342 : 0 ≤ (x5_1 : Int) := of_decide_eq_true (by (with_reducible assumption)); have q342 : x5_1 < (l0.length : Int) := of_decide_eq_true (by (with_reducible assumption)); obtain ⟨ad342, A342_0, c342_0, e342, hx342_0, hx342_1, hl342_0, hi342_0⟩ := at_T65 HR0.out x5_1 p342 q342; obtain rfl : ad340 = ad342 := (by injection e342); have HR342_0 := am hi342_0; have HC342_0 := am hl342_0; clear hi342_0 hl342_0; replace p342 := eq_true p342; replace q342 := eq_true q342; have ea_ := Option.some.inj (hx340_0.symm.trans hx342_0); injection ea_ with ea_ en_ ec_; subst ea_; subst ec_; clear en_))
           go_roundg k1
           case measure => have := HK1.out; omega
           case rel => exact ⟨(wrap64 (t341 + 1)), (wrap64 (x5_1 + 1)), (by rfl), (by rfl), H', ⟨by have := HK1.out; omega⟩, by repeat (first | exact Drawn0.refl _ | apply Drawn0.step)⟩
         · rw [if_neg c7] at H
           have c7b0 : (((rd_T65 l0 x5_1).f1) == t341) = false := beq_eq_false_iff_ne.mpr c7
           have c7b1 : (((rd_T65 l0 x5_1).f1) != t341) = true := bne_iff_ne.mpr c7
           obtain rfl := Option.some.inj H
           have p340 : 0 ≤ (x5_1 : Int) := of_decide_eq_true (by (with_reducible assumption))
           have q340 : x5_1 < (l0.length : Int) := of_decide_eq_true (by (with_reducible assumption))
           obtain ⟨ad340, A340_0, c340_0, e340, hx340_0, hx340_1, hl340_0, hi340_0⟩ := at_T65 HR0.out x5_1 p340 q340
           cases e340
           have HR340_0 := am hi340_0
           have HC340_0 := am hl340_0
           clear hi340_0 hl340_0
           replace p340 := eq_true p340
           replace q340 := eq_true q340
           go_wp2_with (((with_reducible refine gate_callee (f := 65) rfl ?_); refine goesL_ (some 18) rfl rfl Try.func65 (by kernel_rfl) rfl #[.slice A340_0 ((rd_T65 l0 x5_1).f0).length c340_0, .int .i64 x1_1] rfl (by (try simp only [List.map_toArray, List.map_cons, List.map_nil]); rfl) ?_; (with_reducible refine (laws_heldInt64S.calls k1 _ _ ((rd_T65 l0 x5_1).f0) x1_1 t341 _ ?side1 ?side2 A5.out).mono ?_); (case side1 => repeat (exact HR340_0.out)); (case side2 => exact HC340_0.out); rintro e w' ⟨rfl, ⟨nd, rfl⟩⟩; refine ⟨_, rfl, ?_⟩; have p342 : 0 ≤ (x5_1 : Int) := of_decide_eq_true (by (with_reducible assumption)); have q342 : x5_1 < (l0.length : Int) := of_decide_eq_true (by (with_reducible assumption)); obtain ⟨ad342, A342_0, c342_0, e342, hx342_0, hx342_1, hl342_0, hi342_0⟩ := at_T65 HR0.out x5_1 p342 q342; obtain rfl : ad340 = ad342 := (by injection e342); have HR342_0 := am hi342_0; have HC342_0 := am hl342_0; clear hi342_0 hl342_0; replace p342 := eq_true p342; replace q342 := eq_true q342; have ea_ := Option.some.inj (hx340_0.symm.trans hx342_0); injection ea_ with ea_ en_ ec_; subst ea_; subst ec_; clear en_))
           go_ret
           exact ⟨by rfl, by repeat (first | exact Drawn0.refl _ | apply Drawn0.step)⟩
     · rw [if_neg c4] at H
       exact absurd H (by simp)
   · rw [if_neg c3] at H
     have c3b0 : decide (x5_1 < (l0.length : Int)) = false := decide_eq_false c3
     clear c3
     obtain rfl := Option.some.inj H
     go_wp2
     go_ret
     exact ⟨by rfl, by repeat (first | exact Drawn0.refl _ | apply Drawn0.step)⟩
def laws_heldSum.f (k : Nat) (a0_0 : Int) (l0_1 : List (S65)) (a1 : Int) : Option (Int) := (laws_heldTermS.f k l0_1 a1).bind fun t344 => (if t344 < 0 then (some (-1)) else (some t344))
theorem laws_heldSum.calls (k : Nat) (a0_0 : Int) (A0_1 : Option Addr) (c0_1 : Nat) (l0_1 : List (S65)) (a1 : Int) (r : Int) (w : World) (hr0_1 : Kd.C k65 w A0_1 l0_1.length l0_1) (hc0_1 : l0_1.length ≤ c0_1) (h : laws_heldSum.f k a0_0 l0_1 a1 = some r) :
 Calls Try.prog 12 #[.agg #[.int .i64 a0_0, .slice A0_1 l0_1.length c0_1], .int .i64 a1] w fun e w' => e = .returned (.int .i64 r) ∧ Below w.heap.size w w' := by
 have hu28 := Try.underlying28
 have HR0_1 := am hr0_1
 have HC0_1 := am hc0_1
 clear hr0_1 hc0_1
 have HB := am (Below.refl w.heap.size w)
 have H : ((laws_heldTermS.f k l0_1 a1).bind fun t344 => (if t344 < 0 then (some (-1)) else (some t344))) = some r := h
 clear h
 replace H := Option.bind_eq_some_iff.mp H
 obtain ⟨t344, A30, H⟩ := H
 replace H : (if t344 < 0 then (some (-1)) else (some t344)) = some r := H
 have A3 := am A30
 clear A30
 by_cases c4 : t344 < 0
 · rw [if_pos c4] at H
   have c4b0 : decide (t344 < 0) = true := decide_eq_true c4
   clear c4
   obtain rfl := Option.some.inj H
   go_enter Try.func12, Try.ntmps12
   go_wp2_with (first | ((with_reducible refine gate_dst (N := 2) rfl ?_); refine box_event ?hg (N := 2) ?hd (cs := #[.int .i64 a0_0, .slice A0_1 l0_1.length c0_1]) (t := 28) ?hr ?_; (case hd => rfl); (case hg => rfl); (case hr => (go_simp; done)); intro gb343 hg w5 hbox hb; have n0_ := am (below_step (by repeat ((with_reducible exact HB.out))) hb); have n1_ := am (hbox); have n2_ := am ((by rw [hg]; exact (below_size (by repeat ((with_reducible exact HB.out)))) : w.heap.size ≤ gb343)); have n3_ := am ((by rw [hg]; exact (below_size (by repeat ((with_reducible exact HB.out)))) : w.heap.size ≤ gb343)); clear HB; have HB := n0_; have BK343 := n1_; have GW343 := n2_; have GE343 := n3_; clear n0_ n1_ n2_ n3_; clear hb hbox hg; have hcz6_0 : w5.cell? ⟨gb343, 0, none⟩ = some (.int .i64 a0_0) := (blk_cell BK343.out 0).trans rfl; have hcz6_1 : w5.cell? ⟨gb343, 1, none⟩ = some (.slice A0_1 l0_1.length c0_1) := (blk_cell BK343.out 1).trans rfl; have hfz6_0 := blk_frozen BK343.out 0; have hfz6_1 := blk_frozen BK343.out 1) | ((with_reducible refine gate_callee (f := 30) rfl ?_); refine goesL_ (some 8) rfl rfl Try.func30 (by kernel_rfl) rfl #[.slice A0_1 l0_1.length c0_1, .int .i64 a1] rfl (by (try simp only [List.map_toArray, List.map_cons, List.map_nil]); rfl) ?_; (with_reducible refine (laws_heldTermS.calls k _ _ l0_1 a1 t344 _ ?side1 ?side2 A3.out).mono ?_); (case side1 => repeat (exact (Kd.C_below HR0_1.out HB.out))); (case side2 => exact HC0_1.out); rintro e w' ⟨rfl, ⟨nd, rfl⟩⟩; refine ⟨_, rfl, ?_⟩))
   go_ret
   exact ⟨by rfl, by repeat ((with_reducible first | exact HB.out | apply pw_below_drewN))⟩
 · rw [if_neg c4] at H
   have c4b0 : decide (t344 < 0) = false := decide_eq_false c4
   clear c4
   obtain rfl := Option.some.inj H
   go_enter Try.func12, Try.ntmps12
   go_wp2_with (first | ((with_reducible refine gate_dst (N := 2) rfl ?_); refine box_event ?hg (N := 2) ?hd (cs := #[.int .i64 a0_0, .slice A0_1 l0_1.length c0_1]) (t := 28) ?hr ?_; (case hd => rfl); (case hg => rfl); (case hr => (go_simp; done)); intro gb343 hg w7 hbox hb; have n0_ := am (below_step (by repeat ((with_reducible exact HB.out))) hb); have n1_ := am (hbox); have n2_ := am ((by rw [hg]; exact (below_size (by repeat ((with_reducible exact HB.out)))) : w.heap.size ≤ gb343)); have n3_ := am ((by rw [hg]; exact (below_size (by repeat ((with_reducible exact HB.out)))) : w.heap.size ≤ gb343)); clear HB; have HB := n0_; have BK343 := n1_; have GW343 := n2_; have GE343 := n3_; clear n0_ n1_ n2_ n3_; clear hb hbox hg; have hcz8_0 : w7.cell? ⟨gb343, 0, none⟩ = some (.int .i64 a0_0) := (blk_cell BK343.out 0).trans rfl; have hcz8_1 : w7.cell? ⟨gb343, 1, none⟩ = some (.slice A0_1 l0_1.length c0_1) := (blk_cell BK343.out 1).trans rfl; have hfz8_0 := blk_frozen BK343.out 0; have hfz8_1 := blk_frozen BK343.out 1) | ((with_reducible refine gate_callee (f := 30) rfl ?_); refine goesL_ (some 8) rfl rfl Try.func30 (by kernel_rfl) rfl #[.slice A0_1 l0_1.length c0_1, .int .i64 a1] rfl (by (try simp only [List.map_toArray, List.map_cons, List.map_nil]); rfl) ?_; (with_reducible refine (laws_heldTermS.calls k _ _ l0_1 a1 t344 _ ?side1 ?side2 A3.out).mono ?_); (case side1 => repeat (exact (Kd.C_below HR0_1.out HB.out))); (case side2 => exact HC0_1.out); rintro e w' ⟨rfl, ⟨nd, rfl⟩⟩; refine ⟨_, rfl, ?_⟩))
   go_ret
   exact ⟨by rfl, by repeat ((with_reducible first | exact HB.out | apply pw_below_drewN))⟩
def impl_in.f (a0 : Int) (a1 : Int) (a2 : Int) : Option (Bool) := if a0 ≥ a1 then (some (decide (a0 ≤ a2))) else (some false)
theorem impl_in.calls (a0 : Int) (a1 : Int) (a2 : Int) (r : Bool) (w : World) (h : impl_in.f a0 a1 a2 = some r) :
 Calls Try.prog 71 #[.int .i64 a0, .int .i64 a1, .int .i64 a2] w fun e w' => e = .returned (.bool r) ∧ Drawn0 w w' := by
 have H : (if a0 ≥ a1 then (some (decide (a0 ≤ a2))) else (some false)) = some r := h
 clear h
 by_cases c4 : a0 ≥ a1
 · rw [if_pos c4] at H
   have c4b0 : decide (a1 ≤ a0) = true := decide_eq_true c4
   clear c4
   obtain rfl := Option.some.inj H
   go_enter Try.func71, Try.ntmps71
   go_wp2
   go_ret
   exact ⟨by rfl, by repeat (exact Drawn0.refl _)⟩
 · rw [if_neg c4] at H
   have c4b0 : decide (a1 ≤ a0) = false := decide_eq_false c4
   clear c4
   obtain rfl := Option.some.inj H
   go_enter Try.func71, Try.ntmps71
   go_wp2
   go_ret
   exact ⟨by rfl, by repeat (exact Drawn0.refl _)⟩
def slices_Index_int64_int64.l0 : Nat → List Int → Int → Int → Int → Option (Int)
 | 0, _, _, _, _ => none
 | k + 1, x0, x1, x7, x8 => if x8 < x7 then (if 0 ≤ x8 then (if x8 < (x0.length : Int) then (if x1 = (rd x0 x8) then (some x8) else (slices_Index_int64_int64.l0 k x0 x1 x7 (wrap64 (x8 + 1)))) else (none)) else (none)) else (some (-1))
def slices_Index_int64_int64.f (k : Nat) (l0 : List Int) (a1 : Int) : Option (Int) := slices_Index_int64_int64.l0 k l0 a1 (l0.length : Int) 0
theorem slices_Index_int64_int64.calls (k : Nat) (A0 : Option Addr) (c0 : Nat) (l0 : List Int) (a1 : Int) (r : Int) (w : World) (hr0 : Kd.C (Kd.int .i64) w A0 l0.length l0) (hc0 : l0.length ≤ c0) (h : slices_Index_int64_int64.f k l0 a1 = some r) :
 Calls Try.prog 98 #[.slice A0 l0.length c0, .int .i64 a1] w fun e w' => e = .returned (.int .i64 r) ∧ Drawn0 w w' := by
 have HR0 := am hr0
 have HC0 := am hc0
 clear hr0 hc0
 have H : (slices_Index_int64_int64.l0 k l0 a1 (l0.length : Int) 0) = some r := h
 clear h
 have H' := am H
 clear H
 go_enter Try.func98, Try.ntmps98
 go_wp2
 go_loopg [8] k (fun kq v8 w' => ∃ (x8_1 : Int), v8 = .int .i64 x8_1 ∧ Aside0 (slices_Index_int64_int64.l0 kq l0 a1 (l0.length : Int) x8_1 = some r) ∧ Aside0 (kq ≤ k) ∧ Drawn0 w w')
 case atStart => exact ⟨(0), (by rfl), H', ⟨Nat.le_refl _⟩, by repeat (exact Drawn0.refl _)⟩
 case round =>
  clear H'
  try clear p2
  obtain ⟨x8_1, rfl, HA, HK1, ⟨m1, rfl⟩⟩ := hrel
  cases gk with
  | zero => exact absurd HA.out (by simp [slices_Index_int64_int64.l0])
  | succ k1 =>
   have H := HA.out
   clear HA
   simp only [slices_Index_int64_int64.l0] at H
   by_cases c3 : x8_1 < (l0.length : Int)
   · rw [if_pos c3] at H
     have c3b0 : decide (x8_1 < (l0.length : Int)) = true := decide_eq_true c3
     clear c3
     by_cases c4 : 0 ≤ x8_1
     · rw [if_pos c4] at H
       have c4b0 : decide (0 ≤ x8_1) = true := decide_eq_true c4
       clear c4
       by_cases c5 : x8_1 < (l0.length : Int)
       · rw [if_pos c5] at H
         have c5b0 : decide (x8_1 < (l0.length : Int)) = true := decide_eq_true c5
         clear c5
         by_cases c6 : a1 = (rd l0 x8_1)
         · rw [if_pos c6] at H
           have c6b0 : (a1 == (rd l0 x8_1)) = true := beq_iff_eq.mpr c6
           have c6b1 : (a1 != (rd l0 x8_1)) = false := bne_eq_false_iff_eq.mpr c6
           clear c6
           obtain rfl := Option.some.inj H
           have p373 : 0 ≤ (x8_1 : Int) := of_decide_eq_true (by (with_reducible assumption))
           have q373 : x8_1 < (l0.length : Int) := of_decide_eq_true (by (with_reducible assumption))
           obtain ⟨ad373, e373, hx373_0⟩ := Kd.at_int HR0.out x8_1 p373 q373
           cases e373
           replace p373 := eq_true p373
           replace q373 := eq_true q373
           go_wp2
           go_ret
           exact ⟨by rfl, by repeat (first | exact Drawn0.refl _ | apply Drawn0.step)⟩
         · rw [if_neg c6] at H
           have c6b0 : (a1 == (rd l0 x8_1)) = false := beq_eq_false_iff_ne.mpr c6
           have c6b1 : (a1 != (rd l0 x8_1)) = true := bne_iff_ne.mpr c6
           have H' := am H
           clear H
           have p373 : 0 ≤ (x8_1 : Int) := of_decide_eq_true (by (with_reducible assumption))
           have q373 : x8_1 < (l0.length : Int) := of_decide_eq_true (by (with_reducible assumption))
           obtain ⟨ad373, e373, hx373_0⟩ := Kd.at_int HR0.out x8_1 p373 q373
           cases e373
           replace p373 := eq_true p373
           replace q373 := eq_true q373
           go_wp2
           go_roundg k1
           case measure => have := HK1.out; omega
           case rel => exact ⟨(wrap64 (x8_1 + 1)), (by rfl), H', ⟨by have := HK1.out; omega⟩, by repeat (first | exact Drawn0.refl _ | apply Drawn0.step)⟩
       · rw [if_neg c5] at H
         exact absurd H (by simp)
     · rw [if_neg c4] at H
       exact absurd H (by simp)
   · rw [if_neg c3] at H
     have c3b0 : decide (x8_1 < (l0.length : Int)) = false := decide_eq_false c3
     clear c3
     obtain rfl := Option.some.inj H
     go_wp2
     go_ret
     exact ⟨by rfl, by repeat (first | exact Drawn0.refl _ | apply Drawn0.step)⟩
def slices_Contains_int64_int64.f (k : Nat) (l0 : List Int) (a1 : Int) : Option (Bool) := (slices_Index_int64_int64.f k l0 a1).bind fun t374 => (some (decide (t374 ≥ 0)))
theorem slices_Contains_int64_int64.calls (k : Nat) (A0 : Option Addr) (c0 : Nat) (l0 : List Int) (a1 : Int) (r : Bool) (w : World) (hr0 : Kd.C (Kd.int .i64) w A0 l0.length l0) (hc0 : l0.length ≤ c0) (h : slices_Contains_int64_int64.f k l0 a1 = some r) :
 Calls Try.prog 90 #[.slice A0 l0.length c0, .int .i64 a1] w fun e w' => e = .returned (.bool r) ∧ Drawn0 w w' := by
 have HR0 := am hr0
 have HC0 := am hc0
 clear hr0 hc0
 have H : ((slices_Index_int64_int64.f k l0 a1).bind fun t374 => (some (decide (t374 ≥ 0)))) = some r := h
 clear h
 replace H := Option.bind_eq_some_iff.mp H
 obtain ⟨t374, A30, H⟩ := H
 replace H : (some (decide (t374 ≥ 0))) = some r := H
 have A3 := am A30
 clear A30
 obtain rfl := Option.some.inj H
 go_enter Try.func90, Try.ntmps90
 go_wp2_with (((with_reducible refine gate_callee (f := 98) rfl ?_); refine goesL_ (some 7) rfl rfl Try.func98 (by kernel_rfl) rfl #[.slice A0 l0.length c0, .int .i64 a1] rfl (by (try simp only [List.map_toArray, List.map_cons, List.map_nil]); rfl) ?_; (with_reducible refine (slices_Index_int64_int64.calls k _ _ l0 a1 t374 _ ?side1 ?side2 A3.out).mono ?_); (case side1 => repeat (exact HR0.out)); (case side2 => exact HC0.out); rintro e w' ⟨rfl, ⟨nd, rfl⟩⟩; refine ⟨_, rfl, ?_⟩))
 go_ret
 exact ⟨by rfl, by repeat (first | exact Drawn0.refl _ | apply Drawn0.step)⟩
def impl_isPrime.f (k : Nat) (a0 : Int) : Option (Bool) := (slices_Contains_int64_int64.f k (([2, 3, 5, 7, 11, 13] : List Int)) a0).bind fun t378 => (some t378)
theorem impl_isPrime.calls (k : Nat) (a0 : Int) (r : Bool) (w : World) (h : impl_isPrime.f k a0 = some r) :
 Calls Try.prog 79 #[.int .i64 a0] w fun e w' => e = .returned (.bool r) ∧ Below w.heap.size w w' := by
 have HB := am (Below.refl w.heap.size w)
 have H : ((slices_Contains_int64_int64.f k (([2, 3, 5, 7, 11, 13] : List Int)) a0).bind fun t378 => (some t378)) = some r := h
 clear h
 obtain ⟨y375, hy375⟩ : ∃ y_ : List Int, y_ = (([2, 3, 5, 7, 11, 13] : List Int)) := ⟨_, rfl⟩
 replace H : ((slices_Contains_int64_int64.f k y375 a0).bind fun t378 => (some t378)) = some r := by (rw [hy375]; with_reducible exact H)
 have Ny375 := am hy375
 clear hy375
 replace H := Option.bind_eq_some_iff.mp H
 obtain ⟨t378, A20, H⟩ := H
 replace H : (some t378) = some r := H
 have A2 := am A20
 clear A20
 obtain rfl := Option.some.inj H
 go_enter Try.func79, Try.ntmps79
 go_wp2_with (first | ((with_reducible refine gate_dst (N := 3) rfl ?_); refine Kd.R_lit (Kd.int .i64) _ 2 ?hg (N := 3) ?hd (xs := ([2, 3, 5, 7, 11, 13] : List Int)) (inner := [.int .i64 2, .int .i64 3, .int .i64 5, .int .i64 7, .int .i64 11, .int .i64 13]) (ok := fun _ => True) (okp := fun _ => True) ?hr ?hp (fun _ hk => hk) trivial (Below.refl _ _) (Nat.le_refl _) (by simp) ?_; (case hd => rfl); (case hg => rfl); (case hr => (go_simp; done)); (case hp => exact (Reps.one (show Kd.M (Kd.int .i64) _ _ _ 2 [.int .i64 2] from rfl) (Reps.one (show Kd.M (Kd.int .i64) _ _ _ 3 [.int .i64 3] from rfl) (Reps.one (show Kd.M (Kd.int .i64) _ _ _ 5 [.int .i64 5] from rfl) (Reps.one (show Kd.M (Kd.int .i64) _ _ _ 7 [.int .i64 7] from rfl) (Reps.one (show Kd.M (Kd.int .i64) _ _ _ 11 [.int .i64 11] from rfl) (Reps.one (show Kd.M (Kd.int .i64) _ _ _ 13 [.int .i64 13] from rfl) (Reps.none _ _)))))))); intro v376 w3 ho4 hb hg_ hnew_; clear hg_ hnew_; (rw [← Ny375.out] at ho4); have n0_ := am (Kd.R_lower ho4 (below_size (by repeat ((with_reducible exact HB.out))))); have n1_ := am (below_step (by repeat ((with_reducible exact HB.out))) hb); clear HB; have HO377 := n0_; have HB := n1_; clear n0_ n1_; clear hb ho4; obtain ⟨Ao5, co5, eo5⟩ := Kd.R_slice HO377.out; subst eo5) | ((with_reducible refine gate_callee (f := 90) rfl ?_); refine goesL_ (some 5) rfl rfl Try.func90 (by kernel_rfl) rfl #[.slice Ao5 y375.length co5, .int .i64 a0] rfl (by (try simp only [List.map_toArray, List.map_cons, List.map_nil]); rfl) ?_; (with_reducible refine (slices_Contains_int64_int64.calls k _ _ y375 a0 t378 _ ?side1 ?side2 A2.out).mono ?_); (case side1 => repeat (exact (Kd.R_reads' HO377.out).2.2)); (case side2 => exact (Kd.R_reads' HO377.out).2.1); rintro e w' ⟨rfl, ⟨nd, rfl⟩⟩; refine ⟨_, rfl, ?_⟩))
 go_ret
 exact ⟨by rfl, by repeat ((with_reducible first | exact HB.out | apply pw_below_drewN))⟩
def slices_Equal_int64_int64.l0 : Nat → List Int → List Int → Int → Int → Option (Bool)
 | 0, _, _, _, _ => none
 | k + 1, x0, x1, x12, x13 => if x13 < x12 then (if 0 ≤ x13 then (if x13 < (x0.length : Int) then (if x13 < (x1.length : Int) then (if (rd x0 x13) = (rd x1 x13) then (slices_Equal_int64_int64.l0 k x0 x1 x12 (wrap64 (x13 + 1))) else (some false)) else (none)) else (none)) else (none)) else (some true)
def slices_Equal_int64_int64.f (k : Nat) (l0 : List Int) (l1 : List Int) : Option (Bool) := if (l0.length : Int) = (l1.length : Int) then (slices_Equal_int64_int64.l0 k l0 l1 (l0.length : Int) 0) else (some false)
theorem slices_Equal_int64_int64.calls (k : Nat) (A0 : Option Addr) (c0 : Nat) (l0 : List Int) (A1 : Option Addr) (c1 : Nat) (l1 : List Int) (r : Bool) (w : World) (hr0 : Kd.C (Kd.int .i64) w A0 l0.length l0) (hc0 : l0.length ≤ c0) (hr1 : Kd.C (Kd.int .i64) w A1 l1.length l1) (hc1 : l1.length ≤ c1) (h : slices_Equal_int64_int64.f k l0 l1 = some r) :
 Calls Try.prog 72 #[.slice A0 l0.length c0, .slice A1 l1.length c1] w fun e w' => e = .returned (.bool r) ∧ Drawn0 w w' := by
 have HR0 := am hr0
 have HC0 := am hc0
 clear hr0 hc0
 have HR1 := am hr1
 have HC1 := am hc1
 clear hr1 hc1
 have H : (if (l0.length : Int) = (l1.length : Int) then (slices_Equal_int64_int64.l0 k l0 l1 (l0.length : Int) 0) else (some false)) = some r := h
 clear h
 by_cases c3 : (l0.length : Int) = (l1.length : Int)
 · rw [if_pos c3] at H
   have c3b0 : ((l0.length : Int) == (l1.length : Int)) = true := beq_iff_eq.mpr c3
   have c3b1 : ((l0.length : Int) != (l1.length : Int)) = false := bne_eq_false_iff_eq.mpr c3
   have c3b2 : (l0.length == l1.length) = true := by (simp at c3 ⊢; omega)
   clear c3
   have H' := am H
   clear H
   go_enter Try.func72, Try.ntmps72
   go_wp2
   repeat (go_quiet (fail); try go_wp2)
   go_loopg [13] k (fun kq v13 w' => ∃ (x13_1 : Int), v13 = .int .i64 x13_1 ∧ Aside0 (slices_Equal_int64_int64.l0 kq l0 l1 (l0.length : Int) x13_1 = some r) ∧ Aside0 (kq ≤ k) ∧ Drawn0 w w')
   case atStart => exact ⟨(0), (by rfl), H', ⟨Nat.le_refl _⟩, by repeat (exact Drawn0.refl _)⟩
   case round =>
    clear H'
    try clear c1
    try clear p2
    try clear c3
    try clear c3b0
    try clear c3b1
    try clear c3b2
    obtain ⟨x13_1, rfl, HA, HK1, ⟨m1, rfl⟩⟩ := hrel
    cases gk with
    | zero => exact absurd HA.out (by simp [slices_Equal_int64_int64.l0])
    | succ k1 =>
     have H := HA.out
     clear HA
     simp only [slices_Equal_int64_int64.l0] at H
     by_cases c4 : x13_1 < (l0.length : Int)
     · rw [if_pos c4] at H
       have c4b0 : decide (x13_1 < (l0.length : Int)) = true := decide_eq_true c4
       clear c4
       by_cases c5 : 0 ≤ x13_1
       · rw [if_pos c5] at H
         have c5b0 : decide (0 ≤ x13_1) = true := decide_eq_true c5
         clear c5
         by_cases c6 : x13_1 < (l0.length : Int)
         · rw [if_pos c6] at H
           have c6b0 : decide (x13_1 < (l0.length : Int)) = true := decide_eq_true c6
           clear c6
           by_cases c7 : x13_1 < (l1.length : Int)
           · rw [if_pos c7] at H
             have c7b0 : decide (x13_1 < (l1.length : Int)) = true := decide_eq_true c7
             clear c7
             by_cases c8 : (rd l0 x13_1) = (rd l1 x13_1)
             · rw [if_pos c8] at H
               have c8b0 : ((rd l0 x13_1) == (rd l1 x13_1)) = true := beq_iff_eq.mpr c8
               have c8b1 : ((rd l0 x13_1) != (rd l1 x13_1)) = false := bne_eq_false_iff_eq.mpr c8
               clear c8
               have H' := am H
               clear H
               have p379 : 0 ≤ (x13_1 : Int) := of_decide_eq_true (by (with_reducible assumption))
               have q379 : x13_1 < (l0.length : Int) := of_decide_eq_true (by (with_reducible assumption))
               obtain ⟨ad379, e379, hx379_0⟩ := Kd.at_int HR0.out x13_1 p379 q379
               cases e379
               replace p379 := eq_true p379
               replace q379 := eq_true q379
               have p380 : 0 ≤ (x13_1 : Int) := of_decide_eq_true (by (with_reducible assumption))
               have q380 : x13_1 < (l1.length : Int) := of_decide_eq_true (by (with_reducible assumption))
               obtain ⟨ad380, e380, hx380_0⟩ := Kd.at_int HR1.out x13_1 p380 q380
               cases e380
               replace p380 := eq_true p380
               replace q380 := eq_true q380
               go_wp2
               repeat (go_quiet (fail); try go_wp2)
               go_roundg k1
               case measure => have := HK1.out; omega
               case rel => exact ⟨(wrap64 (x13_1 + 1)), (by rfl), H', ⟨by have := HK1.out; omega⟩, by repeat (first | exact Drawn0.refl _ | apply Drawn0.step)⟩
             · rw [if_neg c8] at H
               have c8b0 : ((rd l0 x13_1) == (rd l1 x13_1)) = false := beq_eq_false_iff_ne.mpr c8
               have c8b1 : ((rd l0 x13_1) != (rd l1 x13_1)) = true := bne_iff_ne.mpr c8
               obtain rfl := Option.some.inj H
               have p379 : 0 ≤ (x13_1 : Int) := of_decide_eq_true (by (with_reducible assumption))
               have q379 : x13_1 < (l0.length : Int) := of_decide_eq_true (by (with_reducible assumption))
               obtain ⟨ad379, e379, hx379_0⟩ := Kd.at_int HR0.out x13_1 p379 q379
               cases e379
               replace p379 := eq_true p379
               replace q379 := eq_true q379
               have p380 : 0 ≤ (x13_1 : Int) := of_decide_eq_true (by (with_reducible assumption))
               have q380 : x13_1 < (l1.length : Int) := of_decide_eq_true (by (with_reducible assumption))
               obtain ⟨ad380, e380, hx380_0⟩ := Kd.at_int HR1.out x13_1 p380 q380
               cases e380
               replace p380 := eq_true p380
               replace q380 := eq_true q380
               go_wp2
               repeat (go_quiet (fail); try go_wp2)
               go_ret
               exact ⟨by rfl, by repeat (first | exact Drawn0.refl _ | apply Drawn0.step)⟩
           · rw [if_neg c7] at H
             exact absurd H (by simp)
         · rw [if_neg c6] at H
           exact absurd H (by simp)
       · rw [if_neg c5] at H
         exact absurd H (by simp)
     · rw [if_neg c4] at H
       have c4b0 : decide (x13_1 < (l0.length : Int)) = false := decide_eq_false c4
       clear c4
       obtain rfl := Option.some.inj H
       go_wp2
       repeat (go_quiet (fail); try go_wp2)
       go_ret
       exact ⟨by rfl, by repeat (first | exact Drawn0.refl _ | apply Drawn0.step)⟩
 · rw [if_neg c3] at H
   have c3b0 : ((l0.length : Int) == (l1.length : Int)) = false := beq_eq_false_iff_ne.mpr c3
   have c3b1 : ((l0.length : Int) != (l1.length : Int)) = true := bne_iff_ne.mpr c3
   have c3b2 : (l0.length == l1.length) = false := by (simp at c3 ⊢; omega)
   obtain rfl := Option.some.inj H
   go_enter Try.func72, Try.ntmps72
   go_wp2
   repeat (go_quiet (fail); try go_wp2)
   go_ret
   exact ⟨by rfl, by repeat (exact Drawn0.refl _)⟩
def impl_IsWord.f (k : Nat) (l0 : List Int) : Option (Bool) := if (l0.length : Int) ≤ 12 then ((impl_twice.f l0).bind fun t381 => (if t381 = true then ((impl_normal.f l0).bind fun t382 => ((slices_Equal_int64_int64.f k t382 l0).bind fun t385 => (some t385))) else (some false))) else (some false)
theorem impl_IsWord.calls (k : Nat) (A0 : Option Addr) (c0 : Nat) (l0 : List Int) (r : Bool) (w : World) (hr0 : Kd.C (Kd.int .i64) w A0 l0.length l0) (hc0 : l0.length ≤ c0) (h : impl_IsWord.f k l0 = some r) :
 Calls Try.prog 80 #[.slice A0 l0.length c0] w fun e w' => e = .returned (.bool r) ∧ Below w.heap.size w w' := by
 have HR0 := am hr0
 have HC0 := am hc0
 clear hr0 hc0
 have HB := am (Below.refl w.heap.size w)
 have H : (if (l0.length : Int) ≤ 12 then ((impl_twice.f l0).bind fun t381 => (if t381 = true then ((impl_normal.f l0).bind fun t382 => ((slices_Equal_int64_int64.f k t382 l0).bind fun t385 => (some t385))) else (some false))) else (some false)) = some r := h
 clear h
 by_cases c2 : (l0.length : Int) ≤ 12
 · rw [if_pos c2] at H
   have c2b0 : decide ((l0.length : Int) ≤ 12) = true := decide_eq_true c2
   have c2b1 : decide (l0.length ≤ 12) = true := decide_eq_true (by omega)
   clear c2
   replace H := Option.bind_eq_some_iff.mp H
   obtain ⟨t381, A30, H⟩ := H
   replace H : (if t381 = true then ((impl_normal.f l0).bind fun t382 => ((slices_Equal_int64_int64.f k t382 l0).bind fun t385 => (some t385))) else (some false)) = some r := H
   have A3 := am A30
   clear A30
   by_cases c4 : t381 = true
   · subst c4
     have H1 : ((impl_normal.f l0).bind fun t382 => ((slices_Equal_int64_int64.f k t382 l0).bind fun t385 => (some t385))) = some r := by rw [if_pos rfl] at H; exact H
     clear H
     have H := H1
     clear H1
     replace H := Option.bind_eq_some_iff.mp H
     obtain ⟨t382, A50, H⟩ := H
     replace H : ((slices_Equal_int64_int64.f k t382 l0).bind fun t385 => (some t385)) = some r := H
     have A5 := am A50
     clear A50
     replace H := Option.bind_eq_some_iff.mp H
     obtain ⟨t385, A60, H⟩ := H
     replace H : (some t385) = some r := H
     have A6 := am A60
     clear A60
     obtain rfl := Option.some.inj H
     go_enter Try.func80, Try.ntmps80
     go_wp2_with (first | (go_at_call 91; (with_reducible refine (impl_twice.calls _ _ l0 true _ ?side1 ?side2 A3.out).mono ?_); (case side1 => repeat (exact HR0.out)); (case side2 => exact HC0.out); rintro e w7 ⟨rfl, hb⟩; have n0_ := am (below_step (by repeat ((with_reducible exact HB.out))) hb); clear HB; have HB := n0_; clear n0_; (try clear hb); (try clear hb2); (try clear hk); (try clear hi)) | (go_at_call 92; (with_reducible refine (impl_normal.calls _ _ l0 t382 _ ?side1 ?side2 A5.out).mono ?_); (case side1 => repeat (exact (Kd.C_below HR0.out HB.out))); (case side2 => exact HC0.out); rintro e w8 ⟨v383, rfl, ho0, hb⟩; have n0_ := am (Kd.R_lower ho0 (below_size (by repeat ((with_reducible exact HB.out))))); have n1_ := am (below_step (by repeat ((with_reducible exact HB.out))) hb); clear HB; have HO384 := n0_; have HB := n1_; clear n0_ n1_; (try clear hb); (try clear hb2); (try clear hk); (try clear hi); (try clear ho0); obtain ⟨Ao9, co9, eo9⟩ := Kd.R_slice HO384.out; subst eo9) | (go_at_call 72; (with_reducible refine (slices_Equal_int64_int64.calls k _ _ t382 _ _ l0 t385 _ ?side1 ?side2 ?side3 ?side4 A6.out).mono ?_); (case side1 => repeat (exact (Kd.R_reads' HO384.out).2.2)); (case side2 => exact (Kd.R_reads' HO384.out).2.1); (case side3 => repeat (exact (Kd.C_below HR0.out HB.out))); (case side4 => exact HC0.out); rintro e w' ⟨rfl, ⟨nd, rfl⟩⟩))
     go_ret
     exact ⟨by rfl, by repeat ((with_reducible first | exact HB.out | apply pw_below_drewN))⟩
   · replace c4 := Bool.eq_false_iff.mpr c4
     subst c4
     have H1 : (some false) = some r := by rw [if_neg (show ¬ (false = true) by decide)] at H; exact H
     clear H
     have H := H1
     clear H1
     obtain rfl := Option.some.inj H
     go_enter Try.func80, Try.ntmps80
     go_wp2_with ((go_at_call 91; (with_reducible refine (impl_twice.calls _ _ l0 false _ ?side1 ?side2 A3.out).mono ?_); (case side1 => repeat (exact HR0.out)); (case side2 => exact HC0.out); rintro e w10 ⟨rfl, hb⟩; have n0_ := am (below_step (by repeat ((with_reducible exact HB.out))) hb); clear HB; have HB := n0_; clear n0_; (try clear hb); (try clear hb2); (try clear hk); (try clear hi)))
     go_ret
     exact ⟨by rfl, by repeat ((with_reducible exact HB.out))⟩
 · rw [if_neg c2] at H
   have c2b0 : decide ((l0.length : Int) ≤ 12) = false := decide_eq_false c2
   have c2b1 : decide (l0.length ≤ 12) = false := decide_eq_false (by omega)
   clear c2
   obtain rfl := Option.some.inj H
   go_enter Try.func80, Try.ntmps80
   go_wp2
   go_ret
   exact ⟨by rfl, by repeat ((with_reducible exact HB.out))⟩
def cmp_Or_int.l0 : Nat → Int → List Int → Int → Int → Option (Int)
 | 0, _, _, _, _ => none
 | k + 1, x3, x6, x7, x8 => if x8 < x7 then (if 0 ≤ x8 then (if x8 < (x6.length : Int) then (if (rd x6 x8) = x3 then (cmp_Or_int.l0 k x3 x6 x7 (wrap64 (x8 + 1))) else (some (rd x6 x8))) else (none)) else (none)) else (some x3)
def cmp_Or_int.f (k : Nat) (l0 : List Int) : Option (Int) := cmp_Or_int.l0 k 0 l0 (l0.length : Int) 0
theorem cmp_Or_int.calls (k : Nat) (A0 : Option Addr) (c0 : Nat) (l0 : List Int) (r : Int) (w : World) (hr0 : Kd.C (Kd.int .i64) w A0 l0.length l0) (hc0 : l0.length ≤ c0) (h : cmp_Or_int.f k l0 = some r) :
 Calls Try.prog 93 #[.slice A0 l0.length c0] w fun e w' => e = .returned (.int .i64 r) ∧ Drawn0 w w' := by
 have HR0 := am hr0
 have HC0 := am hc0
 clear hr0 hc0
 have H : (cmp_Or_int.l0 k 0 l0 (l0.length : Int) 0) = some r := h
 clear h
 have H' := am H
 clear H
 go_enter Try.func93, Try.ntmps93
 go_wp2
 go_loopg [8] k (fun kq v8 w' => ∃ (x8_1 : Int), v8 = .int .i64 x8_1 ∧ Aside0 (cmp_Or_int.l0 kq 0 l0 (l0.length : Int) x8_1 = some r) ∧ Aside0 (kq ≤ k) ∧ Drawn0 w w')
 case atStart => exact ⟨(0), (by rfl), H', ⟨Nat.le_refl _⟩, by repeat (exact Drawn0.refl _)⟩
 case round =>
  clear H'
  obtain ⟨x8_1, rfl, HA, HK1, ⟨m1, rfl⟩⟩ := hrel
  cases gk with
  | zero => exact absurd HA.out (by simp [cmp_Or_int.l0])
  | succ k1 =>
   have H := HA.out
   clear HA
   simp only [cmp_Or_int.l0] at H
   by_cases c2 : x8_1 < (l0.length : Int)
   · rw [if_pos c2] at H
     have c2b0 : decide (x8_1 < (l0.length : Int)) = true := decide_eq_true c2
     clear c2
     by_cases c3 : 0 ≤ x8_1
     · rw [if_pos c3] at H
       have c3b0 : decide (0 ≤ x8_1) = true := decide_eq_true c3
       clear c3
       by_cases c4 : x8_1 < (l0.length : Int)
       · rw [if_pos c4] at H
         have c4b0 : decide (x8_1 < (l0.length : Int)) = true := decide_eq_true c4
         clear c4
         by_cases c5 : (rd l0 x8_1) = 0
         · rw [if_pos c5] at H
           have c5b0 : ((rd l0 x8_1) == 0) = true := beq_iff_eq.mpr c5
           have c5b1 : ((rd l0 x8_1) != 0) = false := bne_eq_false_iff_eq.mpr c5
           clear c5
           have H' := am H
           clear H
           have p386 : 0 ≤ (x8_1 : Int) := of_decide_eq_true (by (with_reducible assumption))
           have q386 : x8_1 < (l0.length : Int) := of_decide_eq_true (by (with_reducible assumption))
           obtain ⟨ad386, e386, hx386_0⟩ := Kd.at_int HR0.out x8_1 p386 q386
           cases e386
           replace p386 := eq_true p386
           replace q386 := eq_true q386
           go_wp2
           go_roundg k1
           case measure => have := HK1.out; omega
           case rel => exact ⟨(wrap64 (x8_1 + 1)), (by rfl), H', ⟨by have := HK1.out; omega⟩, by repeat (first | exact Drawn0.refl _ | apply Drawn0.step)⟩
         · rw [if_neg c5] at H
           have c5b0 : ((rd l0 x8_1) == 0) = false := beq_eq_false_iff_ne.mpr c5
           have c5b1 : ((rd l0 x8_1) != 0) = true := bne_iff_ne.mpr c5
           obtain rfl := Option.some.inj H
           have p386 : 0 ≤ (x8_1 : Int) := of_decide_eq_true (by (with_reducible assumption))
           have q386 : x8_1 < (l0.length : Int) := of_decide_eq_true (by (with_reducible assumption))
           obtain ⟨ad386, e386, hx386_0⟩ := Kd.at_int HR0.out x8_1 p386 q386
           cases e386
           replace p386 := eq_true p386
           replace q386 := eq_true q386
           go_wp2
           go_ret
           exact ⟨by rfl, by repeat (first | exact Drawn0.refl _ | apply Drawn0.step)⟩
       · rw [if_neg c4] at H
         exact absurd H (by simp)
     · rw [if_neg c3] at H
       exact absurd H (by simp)
   · rw [if_neg c2] at H
     have c2b0 : decide (x8_1 < (l0.length : Int)) = false := decide_eq_false c2
     clear c2
     obtain rfl := Option.some.inj H
     go_wp2
     go_ret
     exact ⟨by rfl, by repeat (first | exact Drawn0.refl _ | apply Drawn0.step)⟩
def cmp_isNaN_int.f (a0 : Int) : Option (Bool) := some (a0 != a0)
theorem cmp_isNaN_int.calls (a0 : Int) (r : Bool) (w : World) (h : cmp_isNaN_int.f a0 = some r) :
 Calls Try.prog 99 #[.int .i64 a0] w fun e w' => e = .returned (.bool r) ∧ Drawn0 w w' := by
 have H : (some (a0 != a0)) = some r := h
 clear h
 obtain rfl := Option.some.inj H
 go_enter Try.func99, Try.ntmps99
 go_wp2
 go_ret
 exact ⟨by rfl, by repeat (exact Drawn0.refl _)⟩
end Go.Proofs.Ytgcgeoglhebonaa.P
end
section
namespace Go.Proofs.Ytgcgeoglhebonaa.P
open Go.RowKit Go.Maps Go.Proofs.YtgcgeoglhebonaaW.PrintWords Go.Proofs.YtgcgeoglhebonaaW.PrintLast Go.Proofs.YtgcgeoglhebonaaW.PrintMore
set_option linter.unusedVariables false
set_option linter.unusedSimpArgs false
def marksL (a : Int) : Nat → List Int
 | 0 => []
 | n + 1 => a :: marksL (a + 1) n
theorem marksL_length : ∀ (n : Nat) (a : Int), (marksL a n).length = n
 | 0, _ => rfl
 | n + 1, a => by simp [marksL, marksL_length n]
theorem marksL_snoc : ∀ (n : Nat) (a : Int), marksL a (n + 1) = marksL a n ++ [a + n]
 | 0, a => by simp [marksL]
 | n + 1, a => by
  have := marksL_snoc n (a + 1)
  rw [marksL, this]
  simp [marksL]; omega
theorem marksL_rd : ∀ (n : Nat) (a : Int) (i : Nat), i < n → rd (marksL a n) (i : Int) = a + i
 | 0, a, i, h => by omega
 | n + 1, a, 0, h => by simp [marksL, rd]
 | n + 1, a, i + 1, h => by
  have := marksL_rd n (a + 1) i (by omega)
  simp only [rd, Int.toNat_natCast, marksL, List.getD_cons_succ] at this ⊢
  rw [this]; omega
theorem wrS (a : Int) (h0 : 0 ≤ a) (h1 : a ≤ 1000000000000000) : wrap64 (a + 1) = a + 1 := by unfold wrap64; omega
theorem mark_l0 (l : List Int) (a : Int) (h0 : 0 ≤ a) (hb : a + l.length ≤ 1000000000000000) : ∀ (d i : Nat), i + d = l.length → Ev (fun k => laws_markInt64S.l0 k (marksL a i ++ l.drop i) (a + i) (i : Int)) (a + l.length, marksL a l.length) := by
 intro d
 induction d with
 | zero =>
  intro i hi
  refine Ev.step (fun k => by rw [laws_markInt64S.l0]) ?_
  have hl : (marksL a i ++ l.drop i).length = l.length := by simp [marksL_length]; omega
  simp only [hl, if_neg (show ¬ ((i : Int) < (l.length : Int)) by omega)]
  refine ev_val ?_
  rw [List.drop_of_length_le (by omega), List.append_nil]
  obtain rfl : i = l.length := by omega
  rfl
 | succ d ih =>
  intro i hi
  refine Ev.step (fun k => by rw [laws_markInt64S.l0]) ?_
  have hl : (marksL a i ++ l.drop i).length = l.length := by simp [marksL_length]; omega
  simp only [hl, if_pos (show ((i : Int) < (l.length : Int)) by omega), if_pos (show (0 : Int) ≤ (i : Int) by omega), Int.toNat_natCast]
  have e1 : (marksL a i ++ l.drop i).set i (a + i) = marksL a (i + 1) ++ l.drop (i + 1) := by
   rw [List.set_append_right _ _ (by rw [marksL_length]; exact Nat.le_refl _), marksL_length, Nat.sub_self, marksL_snoc, List.append_assoc]
   congr 1
   rw [List.drop_eq_getElem_cons (show i < l.length by omega)]
   rfl
  rw [e1, wrS (a + i) (by omega) (by omega), wr1 i l.length (by omega) (by omega), show a + (i : Int) + 1 = a + ((i + 1 : Nat) : Int) by omega]
  exact ih (i + 1) (by omega)
theorem ev_mark (l : List Int) (a : Int) (h0 : 0 ≤ a) (hb : a + l.length ≤ 1000000000000000) : Ev (fun k => laws_markInt64S.f k l a) (a + l.length, marksL a l.length) := by
 have := mark_l0 l a h0 hb l.length 0 (by omega)
 simpa [laws_markInt64S.f, marksL] using this
theorem held_l0 (n : Nat) (a : Int) (h0 : 0 ≤ a) (hb : a + n ≤ 1000000000000000) : ∀ (d i : Nat), i + d = n → Ev (fun k => laws_heldInt64S.l0 k (marksL a n) (a + i) (i : Int)) (a + n) := by
 intro d
 induction d with
 | zero =>
  intro i hi
  refine Ev.step (fun k => by rw [laws_heldInt64S.l0]) ?_
  simp only [marksL_length, if_neg (show ¬ ((i : Int) < (n : Int)) by omega)]
  refine ev_val ?_
  obtain rfl : i = n := by omega
  rfl
 | succ d ih =>
  intro i hi
  refine Ev.step (fun k => by rw [laws_heldInt64S.l0]) ?_
  simp only [marksL_length, if_pos (show ((i : Int) < (n : Int)) by omega), if_pos (show (0 : Int) ≤ (i : Int) by omega), marksL_rd n a i (by omega), if_true]
  rw [wrS (a + i) (by omega) (by omega), wr1 i n (by omega) (by omega), show a + (i : Int) + 1 = a + ((i + 1 : Nat) : Int) by omega]
  exact ih (i + 1) (by omega)
theorem ev_held (n : Nat) (a : Int) (h0 : 0 ≤ a) (hb : a + n ≤ 1000000000000000) : Ev (fun k => laws_heldInt64S.f k (marksL a n) a) (a + n) := by
 have := held_l0 n a h0 hb n 0 (by omega)
 simpa [laws_heldInt64S.f] using this
theorem markI_any (v : Value) (l : List Int) (a : Int) (w0 w : World) (ok : Nat → Prop) (hB : Below w0.heap.size w0 w) (h : Kd.R (Kd.int .i64) 2 w w0.heap.size ok v l) (h0 : 0 ≤ a) (hb : a + l.length ≤ 1000000000000000) :
 Calls Try.prog 64 #[v, .int .i64 a] w fun e w' => e = .returned (.int .i64 (a + l.length)) ∧ Kd.R (Kd.int .i64) 2 w' w0.heap.size ok v (marksL a l.length) ∧ Below w0.heap.size w0 w' ∧ Kept w w' ok := by
 obtain ⟨k, hk⟩ := (ev_mark l a h0 hb).rounds
 refine (laws_markInt64S.calls k ok v l a _ _ w0 w hB h hk).mono ?_
 rintro e w' ⟨rfl, hr, hb, hk⟩
 exact ⟨rfl, Kd.R_flat (fun h => h) hr (fun k hk _ => h.1 k hk), hb, hk⟩
end Go.Proofs.Ytgcgeoglhebonaa.P
end
section
namespace Go.Proofs.Ytgcgeoglhebonaa.P
open Go.RowKit Go.Maps Go.Proofs.YtgcgeoglhebonaaW.PrintWords Go.Proofs.YtgcgeoglhebonaaW.PrintLast Go.Proofs.YtgcgeoglhebonaaW.PrintMore
set_option linter.unusedVariables false
set_option linter.unusedSimpArgs false
set_option linter.unusedSectionVars false
theorem blk_al {w : World} {g : Nat} {o o' : Obj} (h : w.heap[g]? = some o) : (w.alloc o').heap[g]? = some o := blk_below h (below_alloc (Below.refl _ _) o')
theorem size_al (w : World) (o : Obj) : (w.alloc o).heap.size = w.heap.size + 1 := by simp
structure TermV where
 A : Option Addr
 c : Nat
 l : List Int
 v : Int
def termOf (e : TermV) : S65 := ⟨e.l, e.v⟩
def encT (e : TermV) : List Value := [.slice e.A e.l.length e.c, .int .i64 e.v]
def wblk (e : TermV) : Option Nat := if e.l = [] then none else e.A.map (·.block)
theorem wblk_own {e : TermV} (h : e.l ≠ []) : wblk e = (Value.slice e.A e.l.length e.c).ownBlock := by
 unfold wblk
 rw [if_neg h]
 cases e.A <;> rfl
structure TRow (w : World) (base : Nat) (u : Value) (es : List TermV) : Prop where
 row : w.ownsRow base 65 2 u es.length (es.flatMap encT)
 words : ∀ e ∈ es, e.l ≠ [] → Kd.R (Kd.int .i64) 2 w base (fun _ => True) (.slice e.A e.l.length e.c) e.l
 apart : es.Pairwise fun a b => ∀ k, wblk a = some k → wblk b ≠ some k
theorem flat_length (es : List TermV) : (es.flatMap encT).length = es.length * 2 := by
 induction es with
 | nil => rfl
 | cons e es ih => simp only [List.flatMap_cons, List.length_append, ih, encT, List.length_cons, List.length_nil]; omega
theorem flat_get : ∀ (es : List TermV) (i j : Nat) (e : TermV), es[i]? = some e → j < 2 → (es.flatMap encT)[i * 2 + j]? = (encT e)[j]?
 | [], i, j, e, h, _ => by simp at h
 | a :: es, 0, j, e, h, hj => by
  have : a = e := by simpa using h
  subst this
  rw [List.flatMap_cons, List.getElem?_append_left (by simp [encT]; omega)]
  simp
 | a :: es, i + 1, j, e, h, hj => by
  have ih := flat_get es i j e (by simpa using h) hj
  rw [List.flatMap_cons, List.getElem?_append_right (by simp [encT]; omega)]
  rw [show (i + 1) * 2 + j - (encT a).length = i * 2 + j by simp [encT]; omega]
  exact ih
theorem flat_seg (es : List TermV) (j : Nat) (e : TermV) (h : es[j]? = some e) : ((es.flatMap encT).drop (j * 2)).take 2 = encT e := by
 apply List.ext_getElem?
 intro i
 by_cases hi : i < 2
 · rw [List.getElem?_take_of_lt hi, List.getElem?_drop, flat_get es j i e h hi]
 · rw [List.getElem?_take_eq_none (by omega), List.getElem?_eq_none (by simp [encT]; omega)]
theorem TRow.nil (w : World) (base : Nat) : TRow w base (.slice none 0 0) [] := ⟨own_nil _ _ _ _, (fun e he => by cases he), List.Pairwise.nil⟩
theorem TRow.lower {w : World} {base base' : Nat} {u : Value} {es : List TermV} (h : TRow w base u es) (hb : base' ≤ base) : TRow w base' u es := ⟨own_weaken h.row hb, fun e he hl => Kd.R_lower (h.words e he hl) hb, h.apart⟩
theorem TRow.step {w w1 : World} {base : Nat} {u : Value} {es : List TermV} (h : TRow w base u es) (hm : ∀ k, base ≤ k → k < w.heap.size → w1.heap[k]? = w.heap[k]?) : TRow w1 base u es :=
 ⟨own_move h.row (fun k hk => hm k (own_base h.row k hk) (own_lt h.row k hk)), fun e he hl => Kd.R_mono (Kd.R_move (Kd.R_bound (h.words e he hl)) (fun k hk => hm k hk.2.1 hk.2.2.1)) (fun _ _ => trivial), h.apart⟩
theorem TRow.below {w w1 : World} {base : Nat} {u : Value} {es : List TermV} (h : TRow w base u es) (hb : Below w.heap.size w w1) : TRow w1 base u es := h.step (fun k _ hk => hb.block k hk)
theorem TRow.slice {w : World} {base : Nat} {u : Value} {es : List TermV} (h : TRow w base u es) : ∃ A c, u = .slice A es.length c := own_slice h.row
theorem C_empty {α : Type} (d : Kd α) (w : World) (A : Option Addr) : d.C w A ([] : List α).length [] := ⟨rfl, by simp, fun h => by simp at h⟩
theorem TRow.word {w : World} {base : Nat} {u : Value} {es : List TermV} (h : TRow w base u es) {e : TermV} (he : e ∈ es) : e.l.length ≤ e.c ∧ (Kd.int .i64).C w e.A e.l.length e.l ∨ e.l = [] := by
 by_cases hl : e.l = []
 · exact .inr hl
 · obtain ⟨_, h1, h2⟩ := Kd.R_reads' (h.words e he hl)
   exact .inl ⟨h1, h2⟩
theorem TRow.reads {w : World} {base : Nat} {u : Value} {es : List TermV} (h : TRow w base u es) : ∃ A c, u = .slice A (es.map termOf).length c ∧ (es.map termOf).length ≤ c ∧ k65.C w A (es.map termOf).length (es.map termOf) := by
 have hr : Reps (k65.K w) 2 (es.map termOf) (es.flatMap encT) := by
  refine ⟨by rw [flat_length, List.length_map], fun j p hj => ?_⟩
  rw [List.getElem?_map] at hj
  obtain ⟨e, he, rfl⟩ := Option.map_eq_some_iff.1 hj
  rw [flat_seg es j e he]
  rcases h.word (List.mem_of_getElem? he) with ⟨h1, h2⟩ | h1
  · exact k65_mk w (termOf e) h1 h2
  · have : (Kd.int .i64).C w e.A (termOf e).f0.length (termOf e).f0 := by
     show (Kd.int .i64).C w e.A e.l.length e.l
     rw [h1]; exact C_empty _ _ _
    exact k65_mk w (termOf e) (c0 := e.c) (by show e.l.length ≤ e.c; rw [h1]; exact Nat.zero_le _) this
 obtain ⟨A, c, he, hc⟩ := own_reads_row (n := es.length) h.row hr (by simp)
 refine ⟨A, c, by rw [he]; simp, ?_, by rw [List.length_map]; exact hc⟩
 have hrow := h.row
 rw [he] at hrow
 have := own_le hrow
 simpa using this
theorem TRow.of_S {w : World} {base : Nat} {ok : Nat → Prop} {u : Value} {ts : List S65} (h : Kd.S k65 65 w base ok u ts) : ∃ es, es.map termOf = ts ∧ TRow w base u es := by
 obtain ⟨f, hok, inner, hrow, hr⟩ := h
 rw [List.length_zipIdx] at hrow
 have key : ∀ j : Fin ts.length, ∃ e : TermV, termOf e = ts[j] ∧ (inner.drop (j.1 * 2)).take 2 = encT e ∧ (e.l ≠ [] → Kd.R (Kd.int .i64) 2 w base (fun k => f k = j.1) (.slice e.A e.l.length e.c) e.l) := by
  intro j
  have hM := hr.2 j.1 (ts[j], j.1) (Kd.zip_at (List.getElem?_eq_getElem j.2))
  obtain ⟨v0, hcs, hR⟩ := k65_openM hM
  obtain ⟨A, c, rfl⟩ := Kd.R_slice hR
  exact ⟨⟨A, c, (ts[j]).f0, (ts[j]).f1⟩, rfl, hcs, fun _ => Kd.R_mono hR (fun k hk => hk.2)⟩
 refine ⟨List.ofFn fun j => Classical.choose (key j), ?_, ?_⟩
 · apply List.ext_getElem
   · simp
   · intro i h1 h2
     rw [List.getElem_map, List.getElem_ofFn]
     exact (Classical.choose_spec (key ⟨i, h2⟩)).1
 · have hflat : inner = (List.ofFn fun j => Classical.choose (key j)).flatMap encT := by
    apply List.ext_getElem?
    intro m
    have hlen : inner.length = ts.length * 2 := hrow.1
    by_cases hm : m < ts.length * 2
    · have hj : m / 2 < ts.length := by omega
      have e1 : (List.ofFn fun j => Classical.choose (key j))[m / 2]? = some (Classical.choose (key ⟨m / 2, hj⟩)) := by
       rw [List.getElem?_eq_getElem (by simpa using hj), List.getElem_ofFn]
      have e2 := flat_get _ (m / 2) (m % 2) _ e1 (by omega)
      rw [show m / 2 * 2 + m % 2 = m by omega] at e2
      rw [e2, ← (Classical.choose_spec (key ⟨m / 2, hj⟩)).2.1, List.getElem?_take_of_lt (by omega), List.getElem?_drop, show m / 2 * 2 + m % 2 = m by omega]
    · rw [List.getElem?_eq_none (by omega), List.getElem?_eq_none (by rw [flat_length]; simp; omega)]
   refine ⟨by rw [← hflat, List.length_ofFn]; exact hrow, fun e he hl => ?_, ?_⟩
   · obtain ⟨j, rfl⟩ := List.mem_ofFn.1 he
     exact Kd.R_mono ((Classical.choose_spec (key j)).2.2 hl) (fun _ _ => trivial)
   · rw [List.pairwise_iff_getElem]
     intro i j h1 h2 hij k hk1 hk2
     rw [List.getElem_ofFn] at hk1 hk2
     have b1 : i < ts.length := by simpa using h1
     have b2 : j < ts.length := by simpa using h2
     have l1 : (Classical.choose (key ⟨i, b1⟩)).l ≠ [] := fun e => by unfold wblk at hk1; rw [if_pos e] at hk1; cases hk1
     have l2 : (Classical.choose (key ⟨j, b2⟩)).l ≠ [] := fun e => by unfold wblk at hk2; rw [if_pos e] at hk2; cases hk2
     have f1 := ((Classical.choose_spec (key ⟨i, b1⟩)).2.2 l1).1 k (by rw [← wblk_own l1]; exact hk1)
     have f2 := ((Classical.choose_spec (key ⟨j, b2⟩)).2.2 l2).1 k (by rw [← wblk_own l2]; exact hk2)
     simp only at f1 f2
     omega
section
open Go.Sort
theorem flatK_list {α : Type} [Inhabited α] (f : α → TermV) (d : Array α) : (flatK (fun x => encT (f x)) 2 d).toList = (d.toList.map f).flatMap encT := by
 apply List.ext_getElem?
 intro m
 by_cases hm : m < d.size * 2
 · have hj : m / 2 < d.size := by omega
   have e1 : (d.toList.map f)[m / 2]? = some (f d[m / 2]!) := by
    rw [List.getElem?_map, Array.getElem?_toList, Array.getElem?_eq_getElem hj]
    simp [getElem!_pos d (m / 2) hj]
   have e2 := flat_get _ (m / 2) (m % 2) _ e1 (by omega)
   rw [show m / 2 * 2 + m % 2 = m by omega] at e2
   have e3 := get_flatK (fun x => encT (f x)) 2 d m hm
   have hs : m < (flatK (fun x => encT (f x)) 2 d).size := by rw [size_flatK]; exact hm
   rw [e2, Array.getElem?_toList, Array.getElem?_eq_getElem hs]
   rw [getElem!_pos _ m hs] at e3
   rw [e3]
   have h2 : m % 2 < (encT (f d[m / 2]!)).length := by simp [encT]; omega
   rw [List.getElem?_eq_getElem h2, getElem!_pos _ (m % 2) h2]
 · rw [List.getElem?_eq_none (by simp [size_flatK]; omega), List.getElem?_eq_none (by rw [flat_length]; simp; omega)]
theorem putCells_take (F : Array Value) (cur : Array Value) (h : F.size ≤ cur.size) : (putCells id 0 F cur).toList.take F.size = F.toList := by
 apply List.ext_getElem?
 intro j
 by_cases hj : j < F.size
 · rw [List.getElem?_take_of_lt hj, Array.getElem?_toList, Array.getElem?_toList]
   simp [putCells, hj, show j < cur.size by omega]
 · rw [List.getElem?_take_eq_none (by omega), List.getElem?_eq_none (by simp; omega)]
theorem holdsK_own {α : Type} [Inhabited α] {w : World} {base g cap : Nat} (f : α → TermV) (d : Array α) (h : w.ownsRow base 65 2 (.slice (some ⟨g, 0, none⟩) d.size cap) d.size ((d.toList.map f).flatMap encT)) : HoldsK (fun x => encT (f x)) 2 w g 0 d := by
 intro j hj
 rw [size_flatK] at hj
 refine ⟨?_, h.frozenAt _⟩
 rw [Nat.zero_add, h.cellAt j hj, ← flatK_list f d, Array.getElem?_toList]
 have hs : j < (flatK (fun x => encT (f x)) 2 d).size := by rw [size_flatK]; exact hj
 rw [Array.getElem?_eq_getElem hs, getElem!_pos _ j hs]
 rfl
theorem own_sorted {α : Type} [Inhabited α] {w : World} {base g cap : Nat} (f : α → TermV) (d d' : Array α) (n : Nat) (os : Array Obj) (hs : d'.size = d.size) (h : w.ownsRow base 65 2 (.slice (some ⟨g, 0, none⟩) d.size cap) d.size ((d.toList.map f).flatMap encT)) :
 (sortWorldK (fun x => encT (f x)) 2 w g 0 n d' os).ownsRow base 65 2 (.slice (some ⟨g, 0, none⟩) d.size cap) d.size ((d'.toList.map f).flatMap encT) := by
 obtain ⟨h1, h2⟩ := h
 rcases h2 with ⟨he, _⟩ | ⟨g', cap', cur, he, hb, hh, hn, hc, hsz, ht⟩
 · cases he
 · injection he with e1 e2 e3
   injection e1 with e1
   have e1 : g = g' := congrArg Addr.block e1
   subst e1 e3
   refine ⟨by rw [flat_length, List.length_map, Array.length_toList, hs], .inr ⟨g, cap, putCells id 0 (flatK (fun x => encT (f x)) 2 d') cur, rfl, hb, ?_, hn, hc, by simp [putCells, hsz], ?_⟩⟩
   · have hg : g < w.heap.size := (Array.getElem?_eq_some_iff.1 hh).1
     unfold sortWorldK putRowK
     rw [heap_grow_old _ _ (by simpa using hg)]
     simp [putRow, mapBlock, Sort.ahead, Array.getElem?_modify, hh, onCells]
   · have hle : (flatK (fun x => encT (f x)) 2 d').size ≤ cur.size := by rw [size_flatK, hs, hsz]; exact Nat.mul_le_mul_right _ hn
     have := putCells_take (flatK (fun x => encT (f x)) 2 d') cur hle
     rw [size_flatK, hs, flatK_list] at this
     exact this
theorem grownBy_sortedK {α : Type} [Inhabited α] {enc : α → List Value} {k : Nat} {w : World} {g n : Nat} {os : Array Obj} (d : Array α) : w.grownBy (sortWorldK enc k w g 0 n d os) (some g) := by
 unfold sortWorldK putRowK
 refine ⟨rfl, rfl, rfl, by simp, fun j hj hne => ?_⟩
 rw [heap_grow_old _ _ (by simpa using hj)]
 have : g ≠ j := fun e => hne (by rw [e])
 simp [putRow, mapBlock, Sort.ahead, Array.getElem?_modify, this]
end
end Go.Proofs.Ytgcgeoglhebonaa.P
end
section
namespace Go.Proofs.Ytgcgeoglhebonaa.P
open Go.RowKit Go.Maps Go.Proofs.YtgcgeoglhebonaaW.PrintWords Go.Proofs.YtgcgeoglhebonaaW.PrintLast Go.Proofs.YtgcgeoglhebonaaW.PrintMore
set_option linter.unusedVariables false
set_option linter.unusedSimpArgs false
theorem infoB : (Try.prog.info? 5).map (fun i => (i.zero, i.size, i.bytes)) = some (some (.int .u8 0), 1, 1) := by kernel_rfl
section
variable {ops : Array Oper} {rest : List Oper} {o : Oper} {a : Act} {Q : Exit → Act → World → Prop} {w W : World}
theorem appB (hgd : o.guard = none) (s x : Operand) (ho : o.op = .call { callee := .builtin .append, args := #[s, x], argTypes := #[99, 99] })
 (v : Value) (xs : List Int) (p : Int) (ok : Nat → Prop) (hs : a.eval s = v) (hx : a.eval x = .slice (some ⟨W.heap.size, 0, none⟩) 1 1) (HO : Kd.R (Kd.int .u8) 5 W w.heap.size ok v xs) (hfresh : ∀ k, W.heap.size ≤ k → ok k)
 (HB : Below w.heap.size w W) (hl : xs.length ≤ 17592186044414)
 (h : ∀ v1 w1, Kd.R (Kd.int .u8) 5 w1 w.heap.size ok v1 (xs ++ [p]) → Below w.heap.size w w1 → W.grownBy w1 v.ownBlock → (v1.ownBlock = v.ownBlock ∨ ∃ b, v1.ownBlock = some b ∧ W.heap.size ≤ b) → wpList Try.prog ops Q rest (a.put o.dst v1) w1) :
 wpList Try.prog ops Q (o :: rest) a (W.alloc (.cells #[.int .u8 p] 5)) :=
 Kd.R_append (Kd.int .u8) (w0 := w) w.heap.size hgd s x 99 5 (.int .u8 0) 1 ho Try.underlying99 infoB rfl (by decide) (by omega) v xs p [.int .u8 p] ok (fun _ => False) hs hx rfl (fun _ h => h.elim) hfresh HO HB HB.size (by omega) h
theorem litB (N : Tmp) (hd : o.dst = some N) (hgd : o.guard = none) (xs : List Int) (ok : Nat → Prop)
 (hrun : (execOp a.eval o).run Try.prog W = .ok (.value (.slice (some ⟨W.heap.size, 0, none⟩) xs.length xs.length)) (W.alloc (.cells (xs.map (Value.int .u8)).toArray 5)))
 (hfresh : ok W.heap.size) (HB : Below w.heap.size w W) (hm : xs.length ≤ 9223372036854775807)
 (h : ∀ v1 w1, Kd.R (Kd.int .u8) 5 w1 w.heap.size ok v1 xs → Below w.heap.size w w1 → W.grownBy w1 none → (∃ b, v1.ownBlock = some b ∧ W.heap.size ≤ b) → wpList Try.prog ops Q rest (a.put o.dst v1) w1) :
 wpList Try.prog ops Q (o :: rest) a W :=
 Kd.R_lit (Kd.int .u8) (w0 := w) w.heap.size 5 hgd hd (xs := xs) (inner := xs.map (Value.int .u8)) (ok := ok) (okp := fun _ => False) hrun (Kd.reps_scalar xs) (fun _ h => h.elim) hfresh HB HB.size hm h
end
def codeB (x : Int) : Int := (97 + x) % 256
def textB (l : List Int) : ByteArray := strOfNums (l.map codeB)
theorem wordText_any (A0 : Option Addr) (c0 : Nat) (l0 : List Int) (w : World) (hr0 : Kd.C (Kd.int .i64) w A0 l0.length l0) (hs0 : l0.length ≤ 1000000) :
 Calls Try.prog 85 #[.slice A0 l0.length c0] w fun e w' => e = .returned (.string (textB l0)) ∧ Below w.heap.size w w' := by
 have HR0 := am hr0
 clear hr0
 go_enter Try.func85, Try.ntmps85
 go_wp2_with (first
  | ((with_reducible refine gate_dst (N := 6) rfl ?_); refine litB (w := w) 6 rfl rfl [] (fun _ => True) ?hr trivial (Below.refl _ _) (by simp) ?_; (case hr => first | (go_simp; done) | (go_simp; rfl)); intro v1 w1 ho hb hg hnew)
  | go_in)
 have HO := am ho
 have HB := am hb
 clear ho hb hg hnew
 go_loopw [9, 3] (fun i v wr => ∃ k : Nat, k ≤ l0.length ∧ i = .int .i64 k ∧ Aside0 (Kd.R (Kd.int .u8) 5 wr w.heap.size (fun _ => True) v ((l0.take k).map codeB)) ∧ Aside0 (Below w.heap.size w wr))
  (fun i _ _ => l0.length - (intOf i).toNat)
 case atStart => exact ⟨0, Nat.zero_le _, rfl, HO, HB⟩
 case round =>
  obtain ⟨k, hk, rfl, HO, HB⟩ := hrel
  by_cases hlt : k < l0.length
  · obtain ⟨ad, e0, hx⟩ := Kd.at_int (Kd.C_below HR0.out HB.out) (k : Int) (by omega) (by omega)
    cases e0
    have hs := take_succ_rd l0 k hlt
    rw [Int.toNat_natCast] at hx
    generalize rd l0 (k : Int) = x at *
    have HS := am hs
    have hol : ((l0.take k).map codeB).length ≤ 1000000 := by simp; omega
    clear hs
    generalize hL : (l0.take k).map codeB = out at *
    have HL := am hL
    clear hL
    obtain ⟨Av, cv, rfl⟩ := Kd.R_slice HO.out
    go_wp2_with (first
     | (at_builtin; go_must (refine appB rfl (.tmp 13) (.tmp 17) rfl (.slice Av out.length cv) out (codeB x) (fun _ => True) rfl rfl HO.out (fun _ _ => trivial) HB.out (by omega) ?_); intro v2 w1 ho hb hg hat)
     | go_in)
    go_roundw
    case rel => exact ⟨k + 1, by omega, by go_num, ⟨by rw [HS.out, List.map_append, HL.out]; exact ho⟩, ⟨hb⟩⟩
    case measure => simp [intOf]; omega
  · obtain rfl : k = l0.length := by omega
    rw [List.take_length] at HO
    have hcv := fun (W : World) (A : Option Addr) (n c : Nat) (h : (Kd.int .u8).C W A n (l0.map codeB)) => Kd.C_string (P := Try.prog) (src := 99) (dst := 9) (c := c) Try.underlying99 Try.underlying5 Try.underlying9 h
    obtain ⟨Av, cv, rfl⟩ := Kd.R_slice HO.out
    have hcv2 := hcv wr Av _ cv (Kd.R_reads' HO.out).2.2
    have HT := am (show textB l0 = strOfNums (l0.map codeB) from rfl)
    clear hcv HO
    generalize l0.map codeB = L at *
    generalize strOfNums L = T at *
    go_wp2
    go_ret
    exact ⟨by rw [HT.out]; rfl, HB.out⟩
theorem strOf_inj {a b : List Int} (ha : ∀ x ∈ a, 0 ≤ x ∧ x < 256) (hb : ∀ x ∈ b, 0 ≤ x ∧ x < 256) (h : strOfNums a = strOfNums b) : a = b := by
 have h1 : a.map (fun n => UInt8.ofNat n.toNat) = b.map (fun n => UInt8.ofNat n.toNat) := by
  have := congrArg (fun s : ByteArray => s.data.toList) h
  simpa [strOfNums] using this
 have hm : ∀ (l : List Int), (∀ x ∈ l, 0 ≤ x ∧ x < 256) → (l.map (fun n => UInt8.ofNat n.toNat)).map (fun y => (y.toNat : Int)) = l := fun l hl => by
  rw [List.map_map]
  conv => rhs; rw [← List.map_id l]
  refine List.map_congr_left fun x hx => ?_
  have := hl x hx
  simp only [Function.comp, id, UInt8.toNat_ofNat']
  omega
 rw [← hm a ha, ← hm b hb, h1]
theorem textB_inj {a b : List Int} (ha : ∀ x ∈ a, 0 ≤ x ∧ x < 100) (hb : ∀ x ∈ b, 0 ≤ x ∧ x < 100) (h : textB a = textB b) : a = b := by
 have h1 := strOf_inj (by intro x hx; obtain ⟨y, _, rfl⟩ := List.mem_map.1 hx; unfold codeB; omega) (by intro x hx; obtain ⟨y, _, rfl⟩ := List.mem_map.1 hx; unfold codeB; omega) h
 have hm : ∀ (l : List Int), (∀ x ∈ l, 0 ≤ x ∧ x < 100) → (l.map codeB).map (fun y => y - 97) = l := fun l hl => by
  rw [List.map_map]
  conv => rhs; rw [← List.map_id l]
  refine List.map_congr_left fun x hx => ?_
  have := hl x hx
  simp only [Function.comp, codeB, id]; omega
 rw [← hm a ha, ← hm b hb, h1]
end Go.Proofs.Ytgcgeoglhebonaa.P
end
