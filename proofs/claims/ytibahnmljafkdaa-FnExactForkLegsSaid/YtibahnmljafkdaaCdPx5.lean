/- Part of the claim: what the printed walks and words need (no condition). -/
import Derived.Test.YtibahnmljafkdaaCdPx0
import Derived.Test.YtibahnmljafkdaaCdPx1
import Derived.Test.YtibahnmljafkdaaCdPx4
namespace Go.Proofs.Ytibahnmljafkdaa.P
open Go.RowKit Go.Proofs.YtibahnmljafkdaaW.PrintWords Go.Proofs.YtibahnmljafkdaaW.PrintLast Go.Proofs.YtibahnmljafkdaaW.PrintMore
attribute [local go_sem] max2_int min2_int max_two min_two max_three min_three max_four min_four   -- for this text's walks alone
set_option linter.unusedVariables false
set_option linter.unusedSimpArgs false
mutual
def spec_ForkLegs.l0 : Nat → Int → Int → Bool → List Int → List (List Int) → Option (List Int × (List (List Int)) × Int)
 | 0, _, _, _, _, _ => none
 | k + 1, x1, x7, x8, x180000, x180001 => if x8 = true then ((spec_l06Find.f k x180000 x7).bind fun t214 => (spec_ForkLegs.l1 k x1 x7 (decide (t214 ≥ 0)) 0 x180000 x180001)) else ((spec_l06Copy.f k x180000 x180001).bind fun bt182 => (if 0 ≤ x1 then (if x1 < (x180000.length : Int) then (if 0 ≤ (wrap64 (x1 + 1)) then (if (wrap64 (x1 + 1)) < (x180000.length : Int) then ((some (([(([x7, rd x180000 x1, rd x180000 (wrap64 (x1 + 1))] : List Int))] : List (List Int)) : List (List Int))).bind fun y194 => (if bt182.2.length + y194.length < 5864062014805 then (if x1 ≤ (x180000.length : Int) then ((spec_l01Own.f (x180000.take (x1 : Int).toNat)).bind fun t201 => ((some (([x7] : List Int) : List Int)).bind fun y204 => (if t201.length + y204.length < 17592186044416 then ((some (t201 ++ y204 : List Int)).bind fun y207 => (if 0 ≤ (wrap64 (x1 + 2)) then (if (wrap64 (x1 + 2)) ≤ (x180000.length : Int) then (if y207.length + (x180000.drop ((wrap64 (x1 + 2)) : Int).toNat).length < 17592186044416 then (some ((y207 ++ (x180000.drop ((wrap64 (x1 + 2)) : Int).toNat)), (bt182.2 ++ y194), 0)) else (none)) else (none)) else (none))) else (none)))) else (none)) else (none))) else (none)) else (none)) else (none)) else (none)))
def spec_ForkLegs.l1 : Nat → Int → Int → Bool → Int → List Int → List (List Int) → Option (List Int × (List (List Int)) × Int)
 | 0, _, _, _, _, _, _ => none
 | k + 1, x1, x7, x8, x9, x180000, x180001 => if x9 < (x180001.length : Int) then (if x8 = true then (spec_ForkLegs.l1 k x1 x7 true (wrap64 (x9 + 1)) x180000 x180001) else (if 0 ≤ x9 then ((spec_l06Find.f k (rd_L1 x180001 x9) x7).bind fun t216 => (spec_ForkLegs.l1 k x1 x7 (decide (t216 ≥ 0)) (wrap64 (x9 + 1)) x180000 x180001)) else (none))) else (if x8 = true then (spec_ForkLegs.l0 k x1 (wrap64 (x7 + 1)) x8 x180000 x180001) else (spec_ForkLegs.l0 k x1 x7 x8 x180000 x180001))
end
def spec_ForkLegs.f (k : Nat) (l0_0 : List Int) (l0_1 : List (List Int)) (a1 : Int) : Option (List Int × (List (List Int)) × Int) := (spec_l06Code.f k l0_0 l0_1 a1).bind fun t181 => (if t181 = 0 then (spec_ForkLegs.l0 k a1 0 true l0_0 l0_1) else (some (([] : List Int), ([] : List (List Int)), t181)))
def spec_ForkLegs.T15 : Bool × List (List Nat × List Nat) := (true, [([], []), ([0], [0]), ([], []), ([], []), ([3], [3]), ([], []), ([4, 5], [4, 5]), ([6], [6]), ([], []), ([8], [8]), ([], []), ([10], [10]), ([9, 11], [9, 11]), ([12], [12]), ([2, 7, 13], [2, 7, 13]), ([14], [14]), ([1, 15], [1, 15]), ([0, 1, 2, 3, 4, 5, 6, 7, 8, 9, 10, 11, 12, 13, 14, 15, 16], []), ([17, 16, 16, 0, 1, 2, 3, 4, 5, 6, 7, 8, 9, 10, 11, 12, 13, 14, 15, 16], [16, 17])])
def spec_ForkLegs.B15 : List Nat := [0, 1, 0, 0, 8, 0, 56, 120, 0, 256, 0, 1024, 3840, 7936, 16380, 32764, 65535, 131071, 262143]
theorem spec_ForkLegs.tab15 : rtab .any (opsOf Try.f13 15) = spec_ForkLegs.T15 := by kernel_rfl
theorem spec_ForkLegs.bits15 : waitsOk spec_ForkLegs.T15.2 spec_ForkLegs.B15 = true := by kernel_rfl
def spec_ForkLegs.T16 : Bool × List (List Nat × List Nat) := (true, [([], []), ([0], [0]), ([], []), ([1, 2], [1, 2]), ([3], [3]), ([], []), ([5], [5]), ([4, 6, 4], [4, 6]), ([], []), ([8], [8]), ([], []), ([10], [10]), ([9, 11], [9, 11]), ([7, 12, 7], [7, 12]), ([0, 1, 2, 3, 4, 5, 6, 7, 8, 9, 10, 11, 12, 13], []), ([14, 13, 13, 0, 1, 2, 3, 4, 5, 6, 7, 8, 9, 10, 11, 12, 13], [13, 14])])
def spec_ForkLegs.B16 : List Nat := [0, 1, 0, 7, 15, 0, 32, 127, 0, 256, 0, 1024, 3840, 8191, 16383, 32767]
theorem spec_ForkLegs.tab16 : rtab .any (opsOf Try.f13 16) = spec_ForkLegs.T16 := by kernel_rfl
theorem spec_ForkLegs.bits16 : waitsOk spec_ForkLegs.T16.2 spec_ForkLegs.B16 = true := by kernel_rfl
set_option maxHeartbeats 8000000 in
set_option maxRecDepth 100000 in
theorem spec_ForkLegs.calls (k : Nat) (A0_0 : Option Addr) (c0_0 : Nat) (l0_0 : List Int) (A0_1 : Option Addr) (c0_1 : Nat) (l0_1 : List (List Int)) (a1 : Int) (r1 : List Int) (r2 : List (List Int)) (r3 : Int) (w : World) (hr0_0 : Kd.C (Kd.int .i64) w A0_0 l0_0.length l0_0) (hc0_0 : l0_0.length ≤ c0_0) (hr0_1 : Kd.C (Kd.slice 2 (Kd.int .i64)) w A0_1 l0_1.length l0_1) (hc0_1 : l0_1.length ≤ c0_1) (h : spec_ForkLegs.f k l0_0 l0_1 a1 = some (r1, r2, r3)) :
 Calls Try.prog 13 #[.agg #[.slice A0_0 l0_0.length c0_0, .slice A0_1 l0_1.length c0_1], .int .i64 a1] w fun e w' => ∃ v0_ v1_ : Value, e = .returned (.tuple #[.agg #[v0_, v1_], .int .i64 r3]) ∧ Kd.R (Kd.int .i64) 2 w' w.heap.size (fun k_ => (w.heap.size ≤ k_)) v0_ r1 ∧ Kd.N (Kd.slice 2 (Kd.int .i64)) 22 w' w.heap.size (fun k_ => (w.heap.size ≤ k_) ∧ some k_ ≠ (v0_ : Value).ownBlock) v1_ r2 ∧ Below w.heap.size w w' := by
 have hu36 := Try.underlying36
 have HR0_0 := Aside0.mk hr0_0
 have HC0_0 := Aside0.mk hc0_0
 clear hr0_0 hc0_0
 have HR0_1 := Aside0.mk hr0_1
 have HC0_1 := Aside0.mk hc0_1
 clear hr0_1 hc0_1
 have HB := Aside0.mk (Below.refl w.heap.size w)
 have H : ((spec_l06Code.f k l0_0 l0_1 a1).bind fun t181 => (if t181 = 0 then (spec_ForkLegs.l0 k a1 0 true l0_0 l0_1) else (some (([] : List Int), ([] : List (List Int)), t181)))) = some (r1, r2, r3) := h
 clear h
 replace H := Option.bind_eq_some_iff.mp H
 obtain ⟨t181, A30, H⟩ := H
 replace H : (if t181 = 0 then (spec_ForkLegs.l0 k a1 0 true l0_0 l0_1) else (some (([] : List Int), ([] : List (List Int)), t181))) = some (r1, r2, r3) := H
 have A3 := Aside0.mk A30
 clear A30
 by_cases c4 : t181 = 0
 · rw [if_pos c4] at H
   have c4b0 : (t181 == 0) = true := beq_iff_eq.mpr c4
   have c4b1 : (t181 != 0) = false := bne_eq_false_iff_eq.mpr c4
   clear c4
   have H' := Aside0.mk H
   clear H
   go_enter Try.func13, Try.ntmps13
   go_wp2_with (first | ((with_reducible refine gate_dst (N := 2) rfl ?_); refine box_event ?hg (N := 2) ?hd (cs := #[.slice A0_0 l0_0.length c0_0, .slice A0_1 l0_1.length c0_1]) (t := 36) ?hr ?_; (case hd => rfl); (case hg => rfl); (case hr => (go_simp; done)); intro gb179 hg w5 hbox hb; have n0_ := Aside0.mk (below_step (by repeat ((with_reducible exact HB.out))) hb); have n1_ := Aside0.mk (hbox); have n2_ := Aside0.mk ((by rw [hg]; exact (below_size (by repeat ((with_reducible exact HB.out)))) : w.heap.size ≤ gb179)); have n3_ := Aside0.mk ((by rw [hg]; exact (below_size (by repeat ((with_reducible exact HB.out)))) : w.heap.size ≤ gb179)); clear HB; have HB := n0_; have BK179 := n1_; have GW179 := n2_; have GE179 := n3_; clear n0_ n1_ n2_ n3_; clear hb hbox hg) | ((with_reducible refine gate_dst (N := 4) rfl ?_); refine box_event ?hg (N := 4) ?hd (cs := #[.slice none 0 0, .slice none 0 0]) (t := 36) ?hr ?_; (case hd => rfl); (case hg => rfl); (case hr => (go_simp; done)); intro gb180 hg w6 hbox hb; have n0_ := Aside0.mk (blk_below (g := gb179) (o := .cells #[.slice A0_0 l0_0.length c0_0, .slice A0_1 l0_1.length c0_1] 36 (0, 0)) (by (with_reducible repeat (refine blk_drew ?_)); exact BK179.out) hb); have n1_ := Aside0.mk (below_step (by repeat ((with_reducible exact HB.out))) hb); have n2_ := Aside0.mk (hbox); have n3_ := Aside0.mk ((by rw [hg]; exact (below_size (by repeat ((with_reducible exact HB.out)))) : w.heap.size ≤ gb180)); have n4_ := Aside0.mk ((by rw [hg]; exact (below_size (by repeat ((with_reducible exact HB.out)))) : w.heap.size ≤ gb180)); have n5_ := Aside0.mk ((by rw [hg]; exact Nat.ne_of_lt (blk_lt (g := gb179) (o := .cells #[.slice A0_0 l0_0.length c0_0, .slice A0_1 l0_1.length c0_1] 36 (0, 0)) (by (with_reducible repeat (refine blk_drew ?_)); exact BK179.out)) : gb179 ≠ gb180)); have n6_ := Aside0.mk ((by rw [hg]; exact Nat.ne_of_gt (blk_lt (g := gb179) (o := .cells #[.slice A0_0 l0_0.length c0_0, .slice A0_1 l0_1.length c0_1] 36 (0, 0)) (by (with_reducible repeat (refine blk_drew ?_)); exact BK179.out)) : gb180 ≠ gb179)); clear BK179; clear HB; have BK179 := n0_; have HB := n1_; have BK180 := n2_; have GW180 := n3_; have GE180 := n4_; have NB179_180 := n5_; have NB180_179 := n6_; clear n0_ n1_ n2_ n3_ n4_ n5_ n6_; clear hb hbox hg; have hnb7 := NB179_180.out; have hnc7 := NB180_179.out; have hcz8_0 : w6.cell? ⟨gb179, 0, none⟩ = some (.slice A0_0 l0_0.length c0_0) := (blk_cell BK179.out 0).trans rfl; have hcz8_1 : w6.cell? ⟨gb179, 1, none⟩ = some (.slice A0_1 l0_1.length c0_1) := (blk_cell BK179.out 1).trans rfl; have hfz8_0 := blk_frozen BK179.out 0; have hfz8_1 := blk_frozen BK179.out 1) | ((with_reducible refine gate_callee (f := 36) rfl ?_); refine goesL_ (some 13) rfl rfl Try.func36 (by kernel_rfl) rfl #[.agg #[.slice A0_0 l0_0.length c0_0, .slice A0_1 l0_1.length c0_1], .int .i64 a1] rfl (by (try simp only [List.map_toArray, List.map_cons, List.map_nil]); rfl) ?_; (with_reducible refine (spec_l06Code.calls k _ _ l0_0 _ _ l0_1 a1 t181 _ ?side1 ?side2 ?side3 ?side4 A3.out).mono ?_); (case side1 => repeat (exact (Kd.C_below HR0_0.out HB.out))); (case side2 => exact HC0_0.out); (case side3 => repeat (exact (Kd.C_below HR0_1.out HB.out))); (case side4 => exact HC0_1.out); rintro e w9 ⟨rfl, hb⟩; refine ⟨_, rfl, ?_⟩; have n0_ := Aside0.mk (blk_below (g := gb179) (o := .cells #[.slice A0_0 l0_0.length c0_0, .slice A0_1 l0_1.length c0_1] 36 (0, 0)) (by (with_reducible repeat (refine blk_drew ?_)); exact BK179.out) hb); have n1_ := Aside0.mk (blk_below (g := gb180) (o := .cells #[.slice none 0 0, .slice none 0 0] 36 (0, 0)) (by (with_reducible repeat (refine blk_drew ?_)); exact BK180.out) hb); have n2_ := Aside0.mk (below_step (by repeat ((with_reducible exact HB.out))) hb); clear BK179; clear BK180; clear HB; have BK179 := n0_; have BK180 := n1_; have HB := n2_; clear n0_ n1_ n2_; (try clear hb); (try clear hb2); (try clear hk); (try clear hi)))
   go_loopg [7, 8] k (fun kq v7 v8 w' => ∃ (x7_1 : Int) (x8_1 : Bool), v7 = .int .i64 x7_1 ∧ v8 = .bool x8_1 ∧ Aside0 (spec_ForkLegs.l0 kq a1 x7_1 x8_1 l0_0 l0_1 = some (r1, r2, r3)) ∧ Aside0 (kq ≤ k) ∧ Aside0 (w'.heap[gb179]? = some (.cells #[(.slice A0_0 l0_0.length c0_0), (.slice A0_1 l0_1.length c0_1)] 36 (0, 0))) ∧ Aside0 (w'.heap[gb180]? = some (.cells #[(.slice none 0 0), (.slice none 0 0)] 36 (0, 0))) ∧ Aside0 (Below w.heap.size w w'))
   case atStart => exact ⟨(0), (true), (by rfl), (by rfl), H', ⟨Nat.le_refl _⟩, ⟨by (with_reducible repeat (refine blk_drew ?_)); exact BK179.out⟩, ⟨by (with_reducible repeat (refine blk_drew ?_)); exact BK180.out⟩, ⟨by repeat ((with_reducible exact HB.out))⟩⟩
   case round =>
    clear H'
    try clear c1
    try clear p2
    try clear c3
    try clear c4
    try clear c4b0
    try clear c4b1
    try clear c7
    try clear hcz8_0
    try clear hcz8_1
    try clear hfz8_0
    try clear hfz8_1
    obtain ⟨x7_1, x8_1, rfl, rfl, HA, HK1, BK179, BK180, HB⟩ := hrel
    cases gk with
    | zero => exact absurd HA.out (by simp [spec_ForkLegs.l0])
    | succ k1 =>
     have H := HA.out
     clear HA
     simp only [spec_ForkLegs.l0] at H
     by_cases c10 : x8_1 = true
     · subst c10
       have H1 : ((spec_l06Find.f k1 l0_0 x7_1).bind fun t214 => (spec_ForkLegs.l1 k1 a1 x7_1 (decide (t214 ≥ 0)) 0 l0_0 l0_1)) = some (r1, r2, r3) := by rw [if_pos rfl] at H; exact H
       clear H
       have H := H1
       clear H1
       replace H := Option.bind_eq_some_iff.mp H
       obtain ⟨t214, A110, H⟩ := H
       replace H : (spec_ForkLegs.l1 k1 a1 x7_1 (decide (t214 ≥ 0)) 0 l0_0 l0_1) = some (r1, r2, r3) := H
       have A11 := Aside0.mk A110
       clear A110
       have H' := Aside0.mk H
       clear H
       have hnb12 := NB179_180.out
       have hnc12 := NB180_179.out
       have hcz13_0 : wr.cell? ⟨gb179, 0, none⟩ = some (.slice A0_0 l0_0.length c0_0) := (blk_cell BK179.out 0).trans rfl
       have hcz13_1 : wr.cell? ⟨gb179, 1, none⟩ = some (.slice A0_1 l0_1.length c0_1) := (blk_cell BK179.out 1).trans rfl
       have hfz13_0 := blk_frozen BK179.out 0
       have hfz13_1 := blk_frozen BK179.out 1
       go_wp2_with (((with_reducible refine gate_callee (f := 37) rfl ?_); refine goesL_ (some 22) rfl rfl Try.func37 (by kernel_rfl) rfl #[.slice A0_0 l0_0.length c0_0, .int .i64 x7_1] rfl (by (try simp only [List.map_toArray, List.map_cons, List.map_nil]); rfl) ?_; (with_reducible refine (spec_l06Find.calls k1 _ _ l0_0 x7_1 t214 _ ?side1 ?side2 A11.out).mono ?_); (case side1 => repeat (exact (Kd.C_below HR0_0.out HB.out))); (case side2 => exact HC0_0.out); rintro e w' ⟨rfl, ⟨nd, rfl⟩⟩; refine ⟨_, rfl, ?_⟩))
       go_loopg [8, 9] k1 (fun kq v8 v9 w' => ∃ (x8_2 : Bool) (x9_2 : Int), v8 = .bool x8_2 ∧ v9 = .int .i64 x9_2 ∧ Aside0 (spec_ForkLegs.l1 kq a1 x7_1 x8_2 x9_2 l0_0 l0_1 = some (r1, r2, r3)) ∧ Aside0 (kq ≤ k1) ∧ Aside0 (w'.heap[gb179]? = some (.cells #[(.slice A0_0 l0_0.length c0_0), (.slice A0_1 l0_1.length c0_1)] 36 (0, 0))) ∧ Aside0 (w'.heap[gb180]? = some (.cells #[(.slice none 0 0), (.slice none 0 0)] 36 (0, 0))) ∧ Aside0 (Below w.heap.size w w'))
       case atStart => exact ⟨(decide (t214 ≥ 0)), (0), (by rfl), (by rfl), H', ⟨Nat.le_refl _⟩, ⟨by (with_reducible repeat (refine blk_drewN ?_ _)); exact BK179.out⟩, ⟨by (with_reducible repeat (refine blk_drewN ?_ _)); exact BK180.out⟩, ⟨by repeat ((with_reducible first | exact HB.out | apply pw_below_drewN))⟩⟩
       case round =>
        clear H'
        try clear c1
        try clear p2
        try clear c3
        try clear c4
        try clear c4b0
        try clear c4b1
        try clear c7
        try clear c10
        try clear c12
        try clear c13
        try clear hcz13_0
        try clear hcz13_1
        try clear hcz8_0
        try clear hcz8_1
        try clear hfz13_0
        try clear hfz13_1
        try clear hfz8_0
        try clear hfz8_1
        try clear p2
        obtain ⟨x8_2, x9_2, rfl, rfl, HA, HK2, BK179, BK180, HB⟩ := hrel
        cases gk with
        | zero => exact absurd HA.out (by simp [spec_ForkLegs.l1])
        | succ k2 =>
         have H := HA.out
         clear HA
         simp only [spec_ForkLegs.l1] at H
         by_cases c14 : x9_2 < (l0_1.length : Int)
         · rw [if_pos c14] at H
           have c14b0 : decide (x9_2 < (l0_1.length : Int)) = true := decide_eq_true c14
           clear c14
           by_cases c15 : x8_2 = true
           · subst c15
             have H1 : (spec_ForkLegs.l1 k2 a1 x7_1 true (wrap64 (x9_2 + 1)) l0_0 l0_1) = some (r1, r2, r3) := by rw [if_pos rfl] at H; exact H
             clear H
             have H := H1
             clear H1
             have H' := Aside0.mk H
             clear H
             have hnb16 := NB179_180.out
             have hnc16 := NB180_179.out
             have hcz17_0 : wr.cell? ⟨gb179, 0, none⟩ = some (.slice A0_0 l0_0.length c0_0) := (blk_cell BK179.out 0).trans rfl
             have hcz17_1 : wr.cell? ⟨gb179, 1, none⟩ = some (.slice A0_1 l0_1.length c0_1) := (blk_cell BK179.out 1).trans rfl
             have hfz17_0 := blk_frozen BK179.out 0
             have hfz17_1 := blk_frozen BK179.out 1
             go_wp2
             go_roundg k2
             case measure => have := HK1.out; have := HK2.out; omega
             case rel => exact ⟨(true), (wrap64 (x9_2 + 1)), (by rfl), (by rfl), H', ⟨by have := HK1.out; have := HK2.out; omega⟩, ⟨by (with_reducible repeat (refine blk_drew ?_)); exact BK179.out⟩, ⟨by (with_reducible repeat (refine blk_drew ?_)); exact BK180.out⟩, ⟨by repeat ((with_reducible exact HB.out))⟩⟩
           · replace c15 := Bool.eq_false_iff.mpr c15
             subst c15
             have H1 : (if 0 ≤ x9_2 then ((spec_l06Find.f k2 (rd_L1 l0_1 x9_2) x7_1).bind fun t216 => (spec_ForkLegs.l1 k2 a1 x7_1 (decide (t216 ≥ 0)) (wrap64 (x9_2 + 1)) l0_0 l0_1)) else (none)) = some (r1, r2, r3) := by rw [if_neg (show ¬ (false = true) by decide)] at H; exact H
             clear H
             have H := H1
             clear H1
             by_cases c18 : 0 ≤ x9_2
             · rw [if_pos c18] at H
               have c18b0 : decide (0 ≤ x9_2) = true := decide_eq_true c18
               clear c18
               replace H := Option.bind_eq_some_iff.mp H
               obtain ⟨t216, A190, H⟩ := H
               replace H : (spec_ForkLegs.l1 k2 a1 x7_1 (decide (t216 ≥ 0)) (wrap64 (x9_2 + 1)) l0_0 l0_1) = some (r1, r2, r3) := H
               have A19 := Aside0.mk A190
               clear A190
               have H' := Aside0.mk H
               clear H
               have hnb20 := NB179_180.out
               have hnc20 := NB180_179.out
               have hcz21_0 : wr.cell? ⟨gb179, 0, none⟩ = some (.slice A0_0 l0_0.length c0_0) := (blk_cell BK179.out 0).trans rfl
               have hcz21_1 : wr.cell? ⟨gb179, 1, none⟩ = some (.slice A0_1 l0_1.length c0_1) := (blk_cell BK179.out 1).trans rfl
               have hfz21_0 := blk_frozen BK179.out 0
               have hfz21_1 := blk_frozen BK179.out 1
               have p215 : 0 ≤ (x9_2 : Int) := of_decide_eq_true (by (with_reducible assumption))
               have q215 : x9_2 < (l0_1.length : Int) := of_decide_eq_true (by (with_reducible assumption))
               obtain ⟨ad215, A215_0, c215_0, e215, hx215_0, hl215_0, hi215_0⟩ := at_L1 HR0_1.out x9_2 p215 q215
               cases e215
               replace hx215_0 := (HB.out.cell (World.block_lt_of_cell? w _ hx215_0)).trans hx215_0
               have HR215_0 := Aside0.mk hi215_0
               have HC215_0 := Aside0.mk hl215_0
               clear hi215_0 hl215_0
               replace p215 := eq_true p215
               replace q215 := eq_true q215
               go_wp2_with ((go_at_call 37; (with_reducible refine (spec_l06Find.calls k2 _ _ (rd_L1 l0_1 x9_2) x7_1 t216 _ ?side1 ?side2 A19.out).mono ?_); (case side1 => repeat (exact (Kd.C_below HR215_0.out HB.out))); (case side2 => exact HC215_0.out); rintro e w' ⟨rfl, ⟨nd, rfl⟩⟩))
               go_roundg k2
               case measure => have := HK1.out; have := HK2.out; omega
               case rel => exact ⟨(decide (t216 ≥ 0)), (wrap64 (x9_2 + 1)), (by rfl), (by rfl), H', ⟨by have := HK1.out; have := HK2.out; omega⟩, ⟨by (with_reducible repeat (refine blk_drewN ?_ _)); exact BK179.out⟩, ⟨by (with_reducible repeat (refine blk_drewN ?_ _)); exact BK180.out⟩, ⟨by repeat ((with_reducible first | exact HB.out | apply pw_below_drewN))⟩⟩
             · rw [if_neg c18] at H
               exact absurd H (by simp)
         · rw [if_neg c14] at H
           have c14b0 : decide (x9_2 < (l0_1.length : Int)) = false := decide_eq_false c14
           clear c14
           by_cases c22 : x8_2 = true
           · subst c22
             have H1 : (spec_ForkLegs.l0 k2 a1 (wrap64 (x7_1 + 1)) true l0_0 l0_1) = some (r1, r2, r3) := by rw [if_pos rfl] at H; exact H
             clear H
             have H := H1
             clear H1
             have H' := Aside0.mk H
             clear H
             have hnb23 := NB179_180.out
             have hnc23 := NB180_179.out
             have hcz24_0 : wr.cell? ⟨gb179, 0, none⟩ = some (.slice A0_0 l0_0.length c0_0) := (blk_cell BK179.out 0).trans rfl
             have hcz24_1 : wr.cell? ⟨gb179, 1, none⟩ = some (.slice A0_1 l0_1.length c0_1) := (blk_cell BK179.out 1).trans rfl
             have hfz24_0 := blk_frozen BK179.out 0
             have hfz24_1 := blk_frozen BK179.out 1
             go_wp2
             go_roundg k2
             case measure => have := HK1.out; have := HK2.out; omega
             case rel => exact ⟨(wrap64 (x7_1 + 1)), (true), (by rfl), (by rfl), H', ⟨by have := HK1.out; have := HK2.out; omega⟩, ⟨by (with_reducible repeat (refine blk_drew ?_)); exact BK179.out⟩, ⟨by (with_reducible repeat (refine blk_drew ?_)); exact BK180.out⟩, ⟨by repeat ((with_reducible exact HB.out))⟩⟩
           · replace c22 := Bool.eq_false_iff.mpr c22
             subst c22
             have H1 : (spec_ForkLegs.l0 k2 a1 x7_1 false l0_0 l0_1) = some (r1, r2, r3) := by rw [if_neg (show ¬ (false = true) by decide)] at H; exact H
             clear H
             have H := H1
             clear H1
             have H' := Aside0.mk H
             clear H
             have hnb25 := NB179_180.out
             have hnc25 := NB180_179.out
             have hcz26_0 : wr.cell? ⟨gb179, 0, none⟩ = some (.slice A0_0 l0_0.length c0_0) := (blk_cell BK179.out 0).trans rfl
             have hcz26_1 : wr.cell? ⟨gb179, 1, none⟩ = some (.slice A0_1 l0_1.length c0_1) := (blk_cell BK179.out 1).trans rfl
             have hfz26_0 := blk_frozen BK179.out 0
             have hfz26_1 := blk_frozen BK179.out 1
             go_wp2
             go_roundg k2
             case measure => have := HK1.out; have := HK2.out; omega
             case rel => exact ⟨(x7_1), (false), (by rfl), (by rfl), H', ⟨by have := HK1.out; have := HK2.out; omega⟩, ⟨by (with_reducible repeat (refine blk_drew ?_)); exact BK179.out⟩, ⟨by (with_reducible repeat (refine blk_drew ?_)); exact BK180.out⟩, ⟨by repeat ((with_reducible exact HB.out))⟩⟩
     · replace c10 := Bool.eq_false_iff.mpr c10
       subst c10
       have H1 : ((spec_l06Copy.f k1 l0_0 l0_1).bind fun bt182 => (if 0 ≤ a1 then (if a1 < (l0_0.length : Int) then (if 0 ≤ (wrap64 (a1 + 1)) then (if (wrap64 (a1 + 1)) < (l0_0.length : Int) then ((some (([(([x7_1, rd l0_0 a1, rd l0_0 (wrap64 (a1 + 1))] : List Int))] : List (List Int)) : List (List Int))).bind fun y194 => (if bt182.2.length + y194.length < 5864062014805 then (if a1 ≤ (l0_0.length : Int) then ((spec_l01Own.f (l0_0.take (a1 : Int).toNat)).bind fun t201 => ((some (([x7_1] : List Int) : List Int)).bind fun y204 => (if t201.length + y204.length < 17592186044416 then ((some (t201 ++ y204 : List Int)).bind fun y207 => (if 0 ≤ (wrap64 (a1 + 2)) then (if (wrap64 (a1 + 2)) ≤ (l0_0.length : Int) then (if y207.length + (l0_0.drop ((wrap64 (a1 + 2)) : Int).toNat).length < 17592186044416 then (some ((y207 ++ (l0_0.drop ((wrap64 (a1 + 2)) : Int).toNat)), (bt182.2 ++ y194), 0)) else (none)) else (none)) else (none))) else (none)))) else (none)) else (none))) else (none)) else (none)) else (none)) else (none))) = some (r1, r2, r3) := by rw [if_neg (show ¬ (false = true) by decide)] at H; exact H
       clear H
       have H := H1
       clear H1
       replace H := Option.bind_eq_some_iff.mp H
       obtain ⟨⟨t182, t185⟩, A270, H⟩ := H
       replace H : (if 0 ≤ a1 then (if a1 < (l0_0.length : Int) then (if 0 ≤ (wrap64 (a1 + 1)) then (if (wrap64 (a1 + 1)) < (l0_0.length : Int) then ((some (([(([x7_1, rd l0_0 a1, rd l0_0 (wrap64 (a1 + 1))] : List Int))] : List (List Int)) : List (List Int))).bind fun y194 => (if t185.length + y194.length < 5864062014805 then (if a1 ≤ (l0_0.length : Int) then ((spec_l01Own.f (l0_0.take (a1 : Int).toNat)).bind fun t201 => ((some (([x7_1] : List Int) : List Int)).bind fun y204 => (if t201.length + y204.length < 17592186044416 then ((some (t201 ++ y204 : List Int)).bind fun y207 => (if 0 ≤ (wrap64 (a1 + 2)) then (if (wrap64 (a1 + 2)) ≤ (l0_0.length : Int) then (if y207.length + (l0_0.drop ((wrap64 (a1 + 2)) : Int).toNat).length < 17592186044416 then (some ((y207 ++ (l0_0.drop ((wrap64 (a1 + 2)) : Int).toNat)), (t185 ++ y194), 0)) else (none)) else (none)) else (none))) else (none)))) else (none)) else (none))) else (none)) else (none)) else (none)) else (none)) = some (r1, r2, r3) := H
       have A27 := Aside0.mk A270
       clear A270
       by_cases c28 : 0 ≤ a1
       · rw [if_pos c28] at H
         have c28b0 : decide (0 ≤ a1) = true := decide_eq_true c28
         clear c28
         by_cases c29 : a1 < (l0_0.length : Int)
         · rw [if_pos c29] at H
           have c29b0 : decide (a1 < (l0_0.length : Int)) = true := decide_eq_true c29
           clear c29
           obtain ⟨ji30, hji30⟩ : ∃ j_ : Int, (wrap64 (a1 + 1)) = j_ := ⟨_, rfl⟩
           replace H : (if 0 ≤ (ji30) then (if (ji30) < (l0_0.length : Int) then ((some (([(([x7_1, rd l0_0 a1, rd l0_0 (ji30)] : List Int))] : List (List Int)) : List (List Int))).bind fun y194 => (if t185.length + y194.length < 5864062014805 then (if a1 ≤ (l0_0.length : Int) then ((spec_l01Own.f (l0_0.take (a1 : Int).toNat)).bind fun t201 => ((some (([x7_1] : List Int) : List Int)).bind fun y204 => (if t201.length + y204.length < 17592186044416 then ((some (t201 ++ y204 : List Int)).bind fun y207 => (if 0 ≤ (wrap64 (a1 + 2)) then (if (wrap64 (a1 + 2)) ≤ (l0_0.length : Int) then (if y207.length + (l0_0.drop ((wrap64 (a1 + 2)) : Int).toNat).length < 17592186044416 then (some ((y207 ++ (l0_0.drop ((wrap64 (a1 + 2)) : Int).toNat)), (t185 ++ y194), 0)) else (none)) else (none)) else (none))) else (none)))) else (none)) else (none))) else (none)) else (none)) = some (r1, r2, r3) := by (rw [hji30] at H; exact H)
           (try rw [hji30] at A27)
           have hji30w : (IntKind.i64.wrap (a1 + 1)) = ji30 := (i64_w _).trans hji30
           by_cases c31 : 0 ≤ (ji30)
           · rw [if_pos c31] at H
             have c31b0 : decide (0 ≤ (ji30)) = true := decide_eq_true c31
             clear c31
             by_cases c32 : (ji30) < (l0_0.length : Int)
             · rw [if_pos c32] at H
               have c32b0 : decide ((ji30) < (l0_0.length : Int)) = true := decide_eq_true c32
               clear c32
               obtain ⟨y191, hy191⟩ : ∃ y_ : List Int, y_ = (([x7_1, rd l0_0 a1, rd l0_0 (ji30)] : List Int)) := ⟨_, rfl⟩
               replace H : ((some (([y191] : List (List Int)) : List (List Int))).bind fun y194 => (if t185.length + y194.length < 5864062014805 then (if a1 ≤ (l0_0.length : Int) then ((spec_l01Own.f (l0_0.take (a1 : Int).toNat)).bind fun t201 => ((some (([x7_1] : List Int) : List Int)).bind fun y204 => (if t201.length + y204.length < 17592186044416 then ((some (t201 ++ y204 : List Int)).bind fun y207 => (if 0 ≤ (wrap64 (a1 + 2)) then (if (wrap64 (a1 + 2)) ≤ (l0_0.length : Int) then (if y207.length + (l0_0.drop ((wrap64 (a1 + 2)) : Int).toNat).length < 17592186044416 then (some ((y207 ++ (l0_0.drop ((wrap64 (a1 + 2)) : Int).toNat)), (t185 ++ y194), 0)) else (none)) else (none)) else (none))) else (none)))) else (none)) else (none))) = some (r1, r2, r3) := by (rw [hy191]; with_reducible exact H)
               have Ny191 := Aside0.mk hy191
               clear hy191
               obtain ⟨y194, hy194⟩ : ∃ y_ : List (List Int), y_ = (([y191] : List (List Int))) := ⟨_, rfl⟩
               replace H : (if t185.length + y194.length < 5864062014805 then (if a1 ≤ (l0_0.length : Int) then ((spec_l01Own.f (l0_0.take (a1 : Int).toNat)).bind fun t201 => ((some (([x7_1] : List Int) : List Int)).bind fun y204 => (if t201.length + y204.length < 17592186044416 then ((some (t201 ++ y204 : List Int)).bind fun y207 => (if 0 ≤ (wrap64 (a1 + 2)) then (if (wrap64 (a1 + 2)) ≤ (l0_0.length : Int) then (if y207.length + (l0_0.drop ((wrap64 (a1 + 2)) : Int).toNat).length < 17592186044416 then (some ((y207 ++ (l0_0.drop ((wrap64 (a1 + 2)) : Int).toNat)), (t185 ++ y194), 0)) else (none)) else (none)) else (none))) else (none)))) else (none)) else (none)) = some (r1, r2, r3) := by (have H2_ := (Option.bind_some _ _).symm.trans H; rw [hy194]; with_reducible exact H2_)
               have Ny194 := Aside0.mk hy194
               clear hy194
               by_cases c33 : t185.length + y194.length < 5864062014805
               · rw [if_pos c33] at H
                 have LMc33 := Aside0.mk c33
                 clear c33
                 obtain ⟨y197, hy197⟩ : ∃ y_ : List (List Int), y_ = (t185 ++ y194) := ⟨_, rfl⟩
                 replace H : (if a1 ≤ (l0_0.length : Int) then ((spec_l01Own.f (l0_0.take (a1 : Int).toNat)).bind fun t201 => ((some (([x7_1] : List Int) : List Int)).bind fun y204 => (if t201.length + y204.length < 17592186044416 then ((some (t201 ++ y204 : List Int)).bind fun y207 => (if 0 ≤ (wrap64 (a1 + 2)) then (if (wrap64 (a1 + 2)) ≤ (l0_0.length : Int) then (if y207.length + (l0_0.drop ((wrap64 (a1 + 2)) : Int).toNat).length < 17592186044416 then (some ((y207 ++ (l0_0.drop ((wrap64 (a1 + 2)) : Int).toNat)), y197, 0)) else (none)) else (none)) else (none))) else (none)))) else (none)) = some (r1, r2, r3) := by (rw [hy197]; with_reducible exact H)
                 have Ny197 := Aside0.mk hy197
                 clear hy197
                 have c34b0 := eq_true (of_decide_eq_true (by (with_reducible assumption)) : 0 ≤ a1)
                 by_cases c35 : a1 ≤ (l0_0.length : Int)
                 · rw [if_pos c35] at H
                   have c35b0 := eq_true c35
                   have c35b1 : decide (a1 ≤ (l0_0.length : Int)) = true := decide_eq_true c35
                   clear c35
                   replace H := Option.bind_eq_some_iff.mp H
                   obtain ⟨t201, A360, H⟩ := H
                   replace H : ((some (([x7_1] : List Int) : List Int)).bind fun y204 => (if t201.length + y204.length < 17592186044416 then ((some (t201 ++ y204 : List Int)).bind fun y207 => (if 0 ≤ (wrap64 (a1 + 2)) then (if (wrap64 (a1 + 2)) ≤ (l0_0.length : Int) then (if y207.length + (l0_0.drop ((wrap64 (a1 + 2)) : Int).toNat).length < 17592186044416 then (some ((y207 ++ (l0_0.drop ((wrap64 (a1 + 2)) : Int).toNat)), y197, 0)) else (none)) else (none)) else (none))) else (none))) = some (r1, r2, r3) := H
                   have A36 := Aside0.mk A360
                   clear A360
                   obtain ⟨y204, hy204⟩ : ∃ y_ : List Int, y_ = (([x7_1] : List Int)) := ⟨_, rfl⟩
                   replace H : (if t201.length + y204.length < 17592186044416 then ((some (t201 ++ y204 : List Int)).bind fun y207 => (if 0 ≤ (wrap64 (a1 + 2)) then (if (wrap64 (a1 + 2)) ≤ (l0_0.length : Int) then (if y207.length + (l0_0.drop ((wrap64 (a1 + 2)) : Int).toNat).length < 17592186044416 then (some ((y207 ++ (l0_0.drop ((wrap64 (a1 + 2)) : Int).toNat)), y197, 0)) else (none)) else (none)) else (none))) else (none)) = some (r1, r2, r3) := by (have H2_ := (Option.bind_some _ _).symm.trans H; rw [hy204]; with_reducible exact H2_)
                   have Ny204 := Aside0.mk hy204
                   clear hy204
                   by_cases c37 : t201.length + y204.length < 17592186044416
                   · rw [if_pos c37] at H
                     have LMc37 := Aside0.mk c37
                     clear c37
                     obtain ⟨y207, hy207⟩ : ∃ y_ : List Int, y_ = (t201 ++ y204) := ⟨_, rfl⟩
                     replace H : (if 0 ≤ (wrap64 (a1 + 2)) then (if (wrap64 (a1 + 2)) ≤ (l0_0.length : Int) then (if y207.length + (l0_0.drop ((wrap64 (a1 + 2)) : Int).toNat).length < 17592186044416 then (some ((y207 ++ (l0_0.drop ((wrap64 (a1 + 2)) : Int).toNat)), y197, 0)) else (none)) else (none)) else (none)) = some (r1, r2, r3) := by (have H2_ := (Option.bind_some _ _).symm.trans H; rw [hy207]; with_reducible exact H2_)
                     have Ny207 := Aside0.mk hy207
                     clear hy207
                     obtain ⟨ji38, hji38⟩ : ∃ j_ : Int, (wrap64 (a1 + 2)) = j_ := ⟨_, rfl⟩
                     replace H : (if 0 ≤ (ji38) then (if (ji38) ≤ (l0_0.length : Int) then (if y207.length + (l0_0.drop ((ji38) : Int).toNat).length < 17592186044416 then (some ((y207 ++ (l0_0.drop ((ji38) : Int).toNat)), y197, 0)) else (none)) else (none)) else (none)) = some (r1, r2, r3) := by (rw [hji38] at H; exact H)
                     (try rw [hji38] at A27)
                     (try rw [hji38] at A36)
                     have hji38w : (IntKind.i64.wrap (a1 + 2)) = ji38 := (i64_w _).trans hji38
                     by_cases c39 : 0 ≤ (ji38)
                     · rw [if_pos c39] at H
                       have c39b0 := eq_true c39
                       have c39b1 : decide (0 ≤ (ji38)) = true := decide_eq_true c39
                       clear c39
                       by_cases c40 : (ji38) ≤ (l0_0.length : Int)
                       · rw [if_pos c40] at H
                         have c40b0 := eq_true c40
                         have c40b1 : decide ((ji38) ≤ (l0_0.length : Int)) = true := decide_eq_true c40
                         clear c40
                         by_cases c41 : y207.length + (l0_0.drop ((ji38) : Int).toNat).length < 17592186044416
                         · rw [if_pos c41] at H
                           have LMc41 := Aside0.mk c41
                           clear c41
                           obtain ⟨y211, hy211⟩ : ∃ y_ : List Int, y_ = (y207 ++ (l0_0.drop ((ji38) : Int).toNat)) := ⟨_, rfl⟩
                           replace H : (some (y211, y197, 0)) = some (r1, r2, r3) := by (rw [hy211]; with_reducible exact H)
                           have Ny211 := Aside0.mk hy211
                           clear hy211
                           simp only [Option.some.injEq, Prod.mk.injEq] at H
                           obtain ⟨rfl, rfl, rfl⟩ := H
                           have hnb42 := NB179_180.out
                           have hnc42 := NB180_179.out
                           have hcz43_0 : wr.cell? ⟨gb179, 0, none⟩ = some (.slice A0_0 l0_0.length c0_0) := (blk_cell BK179.out 0).trans rfl
                           have hcz43_1 : wr.cell? ⟨gb179, 1, none⟩ = some (.slice A0_1 l0_1.length c0_1) := (blk_cell BK179.out 1).trans rfl
                           have hfz43_0 := blk_frozen BK179.out 0
                           have hfz43_1 := blk_frozen BK179.out 1
                           try go_wp2_with (first | ((with_reducible refine gate_callee (f := 38) rfl ?_); refine goesL_ (some 46) rfl rfl Try.func38 (by kernel_rfl) rfl #[.agg #[.slice A0_0 l0_0.length c0_0, .slice A0_1 l0_1.length c0_1]] rfl (by (try simp only [List.map_toArray, List.map_cons, List.map_nil]); rfl) ?_; (with_reducible refine (spec_l06Copy.calls k1 _ _ l0_0 _ _ l0_1 t182 t185 _ ?side1 ?side2 ?side3 ?side4 A27.out).mono ?_); (case side1 => repeat (exact (Kd.C_below HR0_0.out HB.out))); (case side2 => exact HC0_0.out); (case side3 => repeat (exact (Kd.C_below HR0_1.out HB.out))); (case side4 => exact HC0_1.out); rintro e w44 ⟨v183, v186, rfl, ho0, ho1, hb⟩; refine ⟨_, rfl, ?_⟩; have n0_ := Aside0.mk (Kd.R_lower (Kd.R_newM (M := fun k_ => (w.heap.size ≤ k_)) ho0 (below_size (by repeat ((with_reducible exact HB.out)))) (fun k_ h_ => h_)) (below_size (by repeat ((with_reducible exact HB.out))))); have n1_ := Aside0.mk (Kd.N_lower (Kd.N_mono (ok' := fun k_ => (w.heap.size ≤ k_) ∧ some k_ ≠ (v183 : Value).ownBlock ∧ k_ ≠ gb179 ∧ k_ ≠ gb180) (Kd.S_N (Kd.S_bound ho1)) (fun k_ hk_ => ⟨(Nat.le_trans (below_size (by repeat ((with_reducible exact HB.out)))) hk_.2.1), hk_.1, (Kd.freshB (g := gb179) (o := .cells #[.slice A0_0 l0_0.length c0_0, .slice A0_1 l0_1.length c0_1] 36 (0, 0)) (by (with_reducible repeat (refine blk_drew ?_)); exact BK179.out) k_ hk_.2.1), (Kd.freshB (g := gb180) (o := .cells #[.slice none 0 0, .slice none 0 0] 36 (0, 0)) (by (with_reducible repeat (refine blk_drew ?_)); exact BK180.out) k_ hk_.2.1)⟩)) (below_size (by repeat ((with_reducible exact HB.out))))); have n2_ := Aside0.mk (blk_below (g := gb179) (o := .cells #[.slice A0_0 l0_0.length c0_0, .slice A0_1 l0_1.length c0_1] 36 (0, 0)) (by (with_reducible repeat (refine blk_drew ?_)); exact BK179.out) hb); have n3_ := Aside0.mk (blk_below (g := gb180) (o := .cells #[.slice none 0 0, .slice none 0 0] 36 (0, 0)) (by (with_reducible repeat (refine blk_drew ?_)); exact BK180.out) hb); have n4_ := Aside0.mk (below_step (by repeat ((with_reducible exact HB.out))) hb); clear BK179; clear BK180; clear HB; have HO184 := n0_; have HO187 := n1_; have BK179 := n2_; have BK180 := n3_; have HB := n4_; clear n0_ n1_ n2_ n3_ n4_; (try clear hb); (try clear hb2); (try clear hk); (try clear hi); (try clear ho0); (try clear ho1)) | ((with_reducible refine gate_dst (N := 10) rfl ?_); refine box_event ?hg (N := 10) ?hd (cs := #[.slice none 0 0, .slice none 0 0]) (t := 36) ?hr ?_; (case hd => rfl); (case hg => rfl); (case hr => (go_simp; done)); intro gb188 hg w45 hbox hb; have n0_ := Aside0.mk (Kd.R_below (by (with_reducible repeat (apply Kd.R_drew)); exact HO184.out) hb); have n1_ := Aside0.mk (Kd.N_below (Kd.N_elderB (by (with_reducible repeat (apply Kd.N_drew)); exact HO187.out) gb188 (Nat.le_of_eq hg.symm)) hb); have n2_ := Aside0.mk (blk_below (g := gb179) (o := .cells #[.slice A0_0 l0_0.length c0_0, .slice A0_1 l0_1.length c0_1] 36 (0, 0)) (by (with_reducible repeat (refine blk_drew ?_)); exact BK179.out) hb); have n3_ := Aside0.mk (blk_below (g := gb180) (o := .cells #[.slice none 0 0, .slice none 0 0] 36 (0, 0)) (by (with_reducible repeat (refine blk_drew ?_)); exact BK180.out) hb); have n4_ := Aside0.mk (below_step (by repeat ((with_reducible exact HB.out))) hb); have n5_ := Aside0.mk (hbox); have n6_ := Aside0.mk ((by rw [hg]; exact (below_size (by repeat ((with_reducible exact HB.out)))) : w.heap.size ≤ gb188)); have n7_ := Aside0.mk ((by rw [hg]; exact (below_size (by repeat ((with_reducible exact HB.out)))) : w.heap.size ≤ gb188)); have n8_ := Aside0.mk ((by rw [hg]; exact Nat.ne_of_lt (blk_lt (g := gb179) (o := .cells #[.slice A0_0 l0_0.length c0_0, .slice A0_1 l0_1.length c0_1] 36 (0, 0)) (by (with_reducible repeat (refine blk_drew ?_)); exact BK179.out)) : gb179 ≠ gb188)); have n9_ := Aside0.mk ((by rw [hg]; exact Nat.ne_of_gt (blk_lt (g := gb179) (o := .cells #[.slice A0_0 l0_0.length c0_0, .slice A0_1 l0_1.length c0_1] 36 (0, 0)) (by (with_reducible repeat (refine blk_drew ?_)); exact BK179.out)) : gb188 ≠ gb179)); have n10_ := Aside0.mk ((by rw [hg]; exact Nat.ne_of_lt (blk_lt (g := gb180) (o := .cells #[.slice none 0 0, .slice none 0 0] 36 (0, 0)) (by (with_reducible repeat (refine blk_drew ?_)); exact BK180.out)) : gb180 ≠ gb188)); have n11_ := Aside0.mk ((by rw [hg]; exact Nat.ne_of_gt (blk_lt (g := gb180) (o := .cells #[.slice none 0 0, .slice none 0 0] 36 (0, 0)) (by (with_reducible repeat (refine blk_drew ?_)); exact BK180.out)) : gb188 ≠ gb180)); clear HO184; clear HO187; clear BK179; clear BK180; clear HB; have HO184 := n0_; have HO187 := n1_; have BK179 := n2_; have BK180 := n3_; have HB := n4_; have BK188 := n5_; have GW188 := n6_; have GE188 := n7_; have NB179_188 := n8_; have NB188_179 := n9_; have NB180_188 := n10_; have NB188_180 := n11_; clear n0_ n1_ n2_ n3_ n4_ n5_ n6_ n7_ n8_ n9_ n10_ n11_; clear hb hbox hg; obtain ⟨Ao46, co46, eo46⟩ := Kd.R_slice HO184.out; subst eo46; have hnb47 := NB188_179.out; have hnc47 := NB179_188.out; have hnb48 := NB188_180.out; have hnc48 := NB180_188.out; have hcz49_0 : w45.cell? ⟨gb188, 0, none⟩ = some (.slice none 0 0) := (blk_cell BK188.out 0).trans rfl; have hcz49_1 : w45.cell? ⟨gb188, 1, none⟩ = some (.slice none 0 0) := (blk_cell BK188.out 1).trans rfl; have hfz49_0 := blk_frozen BK188.out 0; have hfz49_1 := blk_frozen BK188.out 1; obtain ⟨Ao50, co50, eo50⟩ := Kd.N_slice HO187.out; subst eo50))
                           have n0_ : Aside0 (Kd.R (Kd.int .i64) 2 ((w45.setCell ⟨gb188, 0, none⟩ (.slice Ao46 t182.length co46)).setCell ⟨gb188, 1, none⟩ (.slice Ao50 t185.length co50)) w.heap.size (fun k_ => (w.heap.size ≤ k_)) (.slice Ao46 t182.length co46) t182) := ⟨by (with_reducible repeat (apply Kd.R_drew)); exact Kd.R_mono (Kd.R_far (p := ⟨gb188, 1, none⟩) (Kd.R_far (p := ⟨gb188, 0, none⟩) (Kd.R_types HO184.out BK188.out (by decide)) (fun _ hk => hk.2) (.slice Ao46 t182.length co46)) (fun _ hk => hk.2) (.slice Ao50 t185.length co50)) (fun _ hk => hk.1.1)⟩
                           have n1_ : Aside0 (Kd.N (Kd.slice 2 (Kd.int .i64)) 22 ((w45.setCell ⟨gb188, 0, none⟩ (.slice Ao46 t182.length co46)).setCell ⟨gb188, 1, none⟩ (.slice Ao50 t185.length co50)) w.heap.size (fun k_ => (w.heap.size ≤ k_) ∧ some k_ ≠ (.slice Ao46 t182.length co46 : Value).ownBlock ∧ k_ ≠ gb179 ∧ k_ ≠ gb180 ∧ k_ ≠ gb188) (.slice Ao50 t185.length co50) t185) := ⟨by (with_reducible repeat (apply Kd.N_drew)); exact Kd.N_mono (Kd.N_far (p := ⟨gb188, 1, none⟩) (Kd.N_far (p := ⟨gb188, 0, none⟩) (Kd.N_mono HO187.out (fun k_ hk => (⟨hk, hk.2⟩ : _ ∧ k_ ≠ gb188))) (fun _ hk => hk.2) (.slice Ao46 t182.length co46)) (fun _ hk => hk.2) (.slice Ao50 t185.length co50)) (fun _ hk => ⟨hk.1.1.1, ⟨hk.1.1.2.1, ⟨hk.1.1.2.2.1, ⟨hk.1.1.2.2.2, hk.1.2⟩⟩⟩⟩)⟩
                           have n2_ : Aside0 (((w45.setCell ⟨gb188, 0, none⟩ (.slice Ao46 t182.length co46)).setCell ⟨gb188, 1, none⟩ (.slice Ao50 t185.length co50)).heap[gb179]? = some (.cells #[.slice A0_0 l0_0.length c0_0, .slice A0_1 l0_1.length c0_1] 36 (0, 0))) := ⟨by (with_reducible repeat (refine blk_drew ?_)); refine blk_far ?_ NB179_188.out _; (with_reducible repeat (refine blk_drew ?_)); refine blk_far ?_ NB179_188.out _; (with_reducible repeat (refine blk_drew ?_)); exact BK179.out⟩
                           have n3_ : Aside0 (((w45.setCell ⟨gb188, 0, none⟩ (.slice Ao46 t182.length co46)).setCell ⟨gb188, 1, none⟩ (.slice Ao50 t185.length co50)).heap[gb180]? = some (.cells #[.slice none 0 0, .slice none 0 0] 36 (0, 0))) := ⟨by (with_reducible repeat (refine blk_drew ?_)); refine blk_far ?_ NB180_188.out _; (with_reducible repeat (refine blk_drew ?_)); refine blk_far ?_ NB180_188.out _; (with_reducible repeat (refine blk_drew ?_)); exact BK180.out⟩
                           have n4_ : Aside0 (((w45.setCell ⟨gb188, 0, none⟩ (.slice Ao46 t182.length co46)).setCell ⟨gb188, 1, none⟩ (.slice Ao50 t185.length co50)).heap[gb188]? = some (.cells #[.slice Ao46 t182.length co46, .slice Ao50 t185.length co50] 36 (0, 0))) := ⟨by (with_reducible repeat (refine blk_drew ?_)); refine blk_put (cs := #[.slice Ao46 t182.length co46, .slice none 0 0]) ?_ 1 _ rfl; (with_reducible repeat (refine blk_drew ?_)); refine blk_put (cs := #[.slice none 0 0, .slice none 0 0]) ?_ 0 _ rfl; (with_reducible repeat (refine blk_drew ?_)); exact BK188.out⟩
                           have n5_ : Aside0 (Below w.heap.size w ((w45.setCell ⟨gb188, 0, none⟩ (.slice Ao46 t182.length co46)).setCell ⟨gb188, 1, none⟩ (.slice Ao50 t185.length co50))) := ⟨by repeat ((with_reducible first | exact HB.out | refine below_set ?_ GE188.out))⟩
                           (try clear HO184)
                           (try clear HO187)
                           (try clear BK179)
                           (try clear BK180)
                           (try clear BK188)
                           (try clear HB)
                           generalize ((w45.setCell ⟨gb188, 0, none⟩ (.slice Ao46 t182.length co46)).setCell ⟨gb188, 1, none⟩ (.slice Ao50 t185.length co50)) = w51 at n0_ n1_ n2_ n3_ n4_ n5_ ⊢
                           have HO184 := n0_
                           have HO187 := n1_
                           have BK179 := n2_
                           have BK180 := n3_
                           have BK188 := n4_
                           have HB := n5_
                           clear n0_ n1_ n2_ n3_ n4_ n5_
                           have n0_ := Aside0.mk (Kd.R_drew HO184.out)
                           have n1_ := Aside0.mk (Kd.N_drew HO187.out)
                           have n2_ := Aside0.mk (blk_drew BK179.out)
                           have n3_ := Aside0.mk (blk_drew BK180.out)
                           have n4_ := Aside0.mk (blk_drew BK188.out)
                           have n5_ := Aside0.mk (below_drew1 HB.out)
                           clear HO184
                           clear HO187
                           clear BK179
                           clear BK180
                           clear BK188
                           clear HB
                           have HO184 := n0_
                           have HO187 := n1_
                           have BK179 := n2_
                           have BK180 := n3_
                           have BK188 := n4_
                           have HB := n5_
                           clear n0_ n1_ n2_ n3_ n4_ n5_
                           have p189 : 0 ≤ (a1 : Int) := of_decide_eq_true (by (with_reducible assumption))
                           have q189 : a1 < (l0_0.length : Int) := of_decide_eq_true (by (with_reducible assumption))
                           obtain ⟨ad189, e189, hx189_0⟩ := Kd.at_int HR0_0.out a1 p189 q189
                           have hw189_0 := hx189_0
                           cases e189
                           replace hx189_0 := (HB.out.cell (World.block_lt_of_cell? w _ hx189_0)).trans hx189_0
                           replace p189 := eq_true p189
                           replace q189 := eq_true q189
                           have p190 : 0 ≤ ((ji30) : Int) := of_decide_eq_true (by (with_reducible assumption))
                           have q190 : (ji30) < (l0_0.length : Int) := of_decide_eq_true (by (with_reducible assumption))
                           obtain ⟨ad190, e190, hx190_0⟩ := Kd.at_int HR0_0.out (ji30) p190 q190
                           have hw190_0 := hx190_0
                           obtain rfl : ad189 = ad190 := (by injection e190)
                           replace hx190_0 := (HB.out.cell (World.block_lt_of_cell? w _ hx190_0)).trans hx190_0
                           replace p190 := eq_true p190
                           replace q190 := eq_true q190
                           refine start_ (n := 19) (S := fun w' => w'.cell? ⟨gb188, 0, none⟩ = some (.slice Ao46 t182.length co46) ∧ w'.cell? ⟨gb188, 1, none⟩ = some (.slice Ao50 t185.length co50) ∧ w'.cell? ⟨gb179, 0, none⟩ = some (.slice (some ad189) l0_0.length c0_0) ∧ w'.cell? ⟨gb179, 1, none⟩ = some (.slice A0_1 l0_1.length c0_1) ∧ w'.cell? (ad189.add (a1).toNat) = some (.int .i64 (rd l0_0 a1)) ∧ w'.cell? (ad189.add ((ji30)).toNat) = some (.int .i64 (rd l0_0 (ji30)))) (ds := [18]) #[false, false, false, false, false, false, false, false, false, false, false, false, false, false, false, false, false, false, false] (by kernel_rfl) rfl rfl ⟨(blk_cell BK188.out 0).trans rfl, (blk_cell BK188.out 1).trans rfl, (blk_cell BK179.out 0).trans rfl, (blk_cell BK179.out 1).trans rfl, ((HB.out.cell (World.block_lt_of_cell? w _ hw189_0)).trans hw189_0), ((HB.out.cell (World.block_lt_of_cell? w _ hw190_0)).trans hw190_0)⟩ (fun hHeld => ?_); refine with_tabW spec_ForkLegs.tab15 spec_ForkLegs.bits15 (fun HT_ HW_ => ?_)
                           generalize w51.drew = w52 at HO184 HO187 BK179 BK180 BK188 HB hx189_0 hx190_0 hHeld ⊢
                           refine pure_ (i := 0) (N := some 47) (v := ?_) (a' := ?_) #[true, false, false, false, false, false, false, false, false, false, false, false, false, false, false, false, false, false, false] rfl rfl (any_of HT_.out (by kernel_rfl)) (fun _ _ _ h => h) (Or.inl ⟨by rfl, ?_⟩) ?_ ?_
                           rotate_left
                           · intro w'
                             go_simp
                             with_reducible rfl
                           rotate_left
                           · simp only [Act.put, List.setIfInBounds_toArray, List.set_cons_zero, List.set_cons_succ, i64_w, i32_w]
                             rfl
                           refine pure_ (i := 2) (N := some 49) (v := ?_) (a' := ?_) #[true, false, true, false, false, false, false, false, false, false, false, false, false, false, false, false, false, false, false] rfl rfl (any_of HT_.out (by kernel_rfl)) (fun _ _ _ h => h) (Or.inl ⟨by rfl, ?_⟩) ?_ ?_
                           rotate_left
                           · intro w'
                             go_simp
                             with_reducible rfl
                           rotate_left
                           · simp only [Act.put, List.setIfInBounds_toArray, List.set_cons_zero, List.set_cons_succ, i64_w, i32_w]
                             rfl
                           refine pure_ (i := 3) (N := some 50) (v := ?_) (a' := ?_) #[true, false, true, true, false, false, false, false, false, false, false, false, false, false, false, false, false, false, false] rfl rfl (any_of HT_.out (by kernel_rfl)) (fun _ _ _ h => h) (Or.inl ⟨by rfl, ?_⟩) ?_ ?_
                           rotate_left
                           · intro w'
                             go_simp
                             with_reducible rfl
                           rotate_left
                           · simp only [Act.put, List.setIfInBounds_toArray, List.set_cons_zero, List.set_cons_succ, i64_w, i32_w]
                             rfl
                           refine pure_ (i := 5) (N := some 52) (v := ?_) (a' := ?_) #[true, false, true, true, false, true, false, false, false, false, false, false, false, false, false, false, false, false, false] rfl rfl (any_of HT_.out (by kernel_rfl)) (fun _ _ _ h => h) (Or.inl ⟨by rfl, ?_⟩) ?_ ?_
                           rotate_left
                           · intro w'
                             go_simp
                             with_reducible rfl
                           rotate_left
                           · simp only [Act.put, List.setIfInBounds_toArray, List.set_cons_zero, List.set_cons_succ, i64_w, i32_w]
                             rfl
                           refine pure_ (i := 8) (N := some 55) (v := ?_) (a' := ?_) #[true, false, true, true, false, true, false, false, true, false, false, false, false, false, false, false, false, false, false] rfl rfl (any_of HT_.out (by kernel_rfl)) (fun _ _ _ h => h) (Or.inl ⟨by rfl, ?_⟩) ?_ ?_
                           rotate_left
                           · intro w'
                             go_simp
                             with_reducible rfl
                           rotate_left
                           · simp only [Act.put, List.setIfInBounds_toArray, List.set_cons_zero, List.set_cons_succ, i64_w, i32_w]
                             rfl
                           refine pure_ (i := 10) (N := some 57) (v := ?_) (a' := ?_) #[true, false, true, true, false, true, false, false, true, false, true, false, false, false, false, false, false, false, false] rfl rfl (any_of HT_.out (by kernel_rfl)) (fun _ _ _ h => h) (Or.inl ⟨by rfl, ?_⟩) ?_ ?_
                           rotate_left
                           · intro w'
                             go_simp
                             with_reducible rfl
                           rotate_left
                           · simp only [Act.put, List.setIfInBounds_toArray, List.set_cons_zero, List.set_cons_succ, i64_w, i32_w]
                             rfl
                           refine pure_ (i := 11) (N := some 58) (v := ?_) (a' := ?_) #[true, false, true, true, false, true, false, false, true, false, true, true, false, false, false, false, false, false, false] rfl rfl (any_of HT_.out (by kernel_rfl)) (fun _ _ _ h => h) (Or.inl ⟨by rfl, ?_⟩) ?_ ?_
                           rotate_left
                           · intro w'
                             go_simp
                             with_reducible rfl
                           rotate_left
                           · simp only [Act.put, List.setIfInBounds_toArray, List.set_cons_zero, List.set_cons_succ, i64_w, i32_w]
                             rfl
                           refine take_ (i := 1) (N := some 48) (v := ?_) (a' := ?_) #[true, true, true, true, false, true, false, false, true, false, true, true, false, false, false, false, false, false, false] rfl rfl (take_ofW HT_.out HW_.out (by kernel_rfl)) (fun _ _ _ h => h) (Or.inl ⟨by rfl, ?_⟩) hHeld ?_ ?_
                           rotate_left
                           · rintro w' ⟨s0, s1, s2, s3, s4, s5⟩
                             go_simp
                             with_reducible rfl
                           rotate_left
                           · simp only [Act.put, List.setIfInBounds_toArray, List.set_cons_zero, List.set_cons_succ, i64_w, i32_w]
                             rfl
                           refine take_ (i := 4) (N := some 51) (v := ?_) (a' := ?_) #[true, true, true, true, true, true, false, false, true, false, true, true, false, false, false, false, false, false, false] rfl rfl (take_ofW HT_.out HW_.out (by kernel_rfl)) (fun _ _ _ h => h) (Or.inl ⟨by rfl, ?_⟩) hHeld ?_ ?_
                           rotate_left
                           · rintro w' ⟨s0, s1, s2, s3, s4, s5⟩
                             go_simp
                             with_reducible rfl
                           rotate_left
                           · simp only [Act.put, List.setIfInBounds_toArray, List.set_cons_zero, List.set_cons_succ, i64_w, i32_w]
                             rfl
                           refine pure_ (i := 6) (N := some 53) (v := ?_) (a' := ?_) #[true, true, true, true, true, true, true, false, true, false, true, true, false, false, false, false, false, false, false] rfl rfl (any_of HT_.out (by kernel_rfl)) (fun _ _ _ h => h) (Or.inl ⟨by rfl, ?_⟩) ?_ ?_
                           rotate_left
                           · intro w'
                             go_simp
                             with_reducible rfl
                           rotate_left
                           · simp only [Act.put, List.setIfInBounds_toArray, List.set_cons_zero, List.set_cons_succ, i64_w, i32_w]
                             rfl
                           refine take_ (i := 7) (N := some 54) (v := ?_) (a' := ?_) #[true, true, true, true, true, true, true, true, true, false, true, true, false, false, false, false, false, false, false] rfl rfl (take_ofW HT_.out HW_.out (by kernel_rfl)) (fun _ _ _ h => h) (Or.inl ⟨by rfl, ?_⟩) hHeld ?_ ?_
                           rotate_left
                           · rintro w' ⟨s0, s1, s2, s3, s4, s5⟩
                             go_simp
                             with_reducible rfl
                           rotate_left
                           · simp only [Act.put, List.setIfInBounds_toArray, List.set_cons_zero, List.set_cons_succ, i64_w, i32_w]
                             rfl
                           refine take_ (i := 9) (N := some 56) (v := ?_) (a' := ?_) #[true, true, true, true, true, true, true, true, true, true, true, true, false, false, false, false, false, false, false] rfl rfl (take_ofW HT_.out HW_.out (by kernel_rfl)) (fun _ _ _ h => h) (Or.inl ⟨by rfl, ?_⟩) hHeld ?_ ?_
                           rotate_left
                           · rintro w' ⟨s0, s1, s2, s3, s4, s5⟩
                             go_simp
                             with_reducible rfl
                           rotate_left
                           · simp only [Act.put, List.setIfInBounds_toArray, List.set_cons_zero, List.set_cons_succ, i64_w, i32_w]
                             rfl
                           refine pure_ (i := 12) (N := some 59) (v := ?_) (a' := ?_) #[true, true, true, true, true, true, true, true, true, true, true, true, true, false, false, false, false, false, false] rfl rfl (any_of HT_.out (by kernel_rfl)) (fun _ _ _ h => h) (Or.inl ⟨by rfl, ?_⟩) ?_ ?_
                           rotate_left
                           · intro w'
                             go_simp
                             with_reducible rfl
                           rotate_left
                           · simp only [Act.put, List.setIfInBounds_toArray, List.set_cons_zero, List.set_cons_succ, i64_w, i32_w]
                             rfl
                           refine take_ (i := 13) (N := some 60) (v := ?_) (a' := ?_) #[true, true, true, true, true, true, true, true, true, true, true, true, true, true, false, false, false, false, false] rfl rfl (take_ofW HT_.out HW_.out (by kernel_rfl)) (fun _ _ _ h => h) (Or.inl ⟨by rfl, ?_⟩) hHeld ?_ ?_
                           rotate_left
                           · rintro w' ⟨s0, s1, s2, s3, s4, s5⟩
                             go_simp
                             with_reducible rfl
                           rotate_left
                           · simp only [Act.put, List.setIfInBounds_toArray, List.set_cons_zero, List.set_cons_succ, i64_w, i32_w]
                             rfl
                           refine one_ (i := 14) (N := some 61) #[true, true, true, true, true, true, true, true, true, true, true, true, true, true, true, false, false, false, false] rfl rfl (one_of HT_.out (by kernel_rfl)) (by decide) (fun K hK => ?_)
                           refine Kd.R_lit_step (Kd.int .i64) _ 2 ?hg (N := 61) ?hd (xs := ([x7_1, rd l0_0 a1, rd l0_0 (ji30)] : List Int)) (inner := [.int .i64 x7_1, .int .i64 (rd l0_0 a1), .int .i64 (rd l0_0 (ji30))]) (ok := fun _ => True) (okp := fun _ => True) ?hr ?hp (fun _ hk => hk) trivial (Below.refl _ _) (Nat.le_refl _) (by simp) ?_; (case hd => rfl); (case hg => rfl); (case hr => (go_simp; done)); (case hp => exact (Reps.one (show Kd.M (Kd.int .i64) _ _ _ x7_1 [.int .i64 x7_1] from rfl) (Reps.one (show Kd.M (Kd.int .i64) _ _ _ (rd l0_0 a1) [.int .i64 (rd l0_0 a1)] from rfl) (Reps.one (show Kd.M (Kd.int .i64) _ _ _ (rd l0_0 (ji30)) [.int .i64 (rd l0_0 (ji30))] from rfl) (Reps.none _ _)))))
                           intro v192 w53 ho54 hb hg_ hnew_
                           clear hg_ hnew_
                           (rw [← Ny191.out] at ho54)
                           have n0_ := Aside0.mk (Kd.R_elder' (by (with_reducible repeat (apply Kd.R_drew)); exact HO184.out) (Kd.R_base ho54) hb)
                           have n1_ := Aside0.mk (Kd.N_elder' (by (with_reducible repeat (apply Kd.N_drew)); exact HO187.out) (Kd.R_base ho54) hb)
                           have n2_ := Aside0.mk (Kd.R_lower (Kd.R_new' (Kd.R_newM (M := fun k_ => (w.heap.size ≤ k_)) ho54 (below_size (by repeat ((with_reducible exact HB.out)))) (fun k_ h_ => h_)) (Kd.R_lt (by (with_reducible repeat (apply Kd.R_drew)); exact HO184.out))) (below_size (by repeat ((with_reducible exact HB.out)))))
                           have n3_ := Aside0.mk (blk_below (g := gb179) (o := .cells #[.slice (some ad189) l0_0.length c0_0, .slice A0_1 l0_1.length c0_1] 36 (0, 0)) (by (with_reducible repeat (refine blk_drew ?_)); exact BK179.out) hb)
                           have n4_ := Aside0.mk (blk_below (g := gb180) (o := .cells #[.slice none 0 0, .slice none 0 0] 36 (0, 0)) (by (with_reducible repeat (refine blk_drew ?_)); exact BK180.out) hb)
                           have n5_ := Aside0.mk (blk_below (g := gb188) (o := .cells #[.slice Ao46 t182.length co46, .slice Ao50 t185.length co50] 36 (0, 0)) (by (with_reducible repeat (refine blk_drew ?_)); exact BK188.out) hb)
                           have n6_ := Aside0.mk (below_step (by repeat ((with_reducible exact HB.out))) hb)
                           clear HO184
                           clear HO187
                           clear BK179
                           clear BK180
                           clear BK188
                           clear HB
                           have HO184 := n0_
                           have HO187 := n1_
                           have HO193 := n2_
                           have BK179 := n3_
                           have BK180 := n4_
                           have BK188 := n5_
                           have HB := n6_
                           clear n0_ n1_ n2_ n3_ n4_ n5_ n6_
                           clear hb ho54
                           obtain ⟨Ao55, co55, eo55⟩ := Kd.R_slice HO193.out
                           (subst eo55)
                           refine hK.out _ _ ⟨(blk_cell BK188.out 0).trans rfl, (blk_cell BK188.out 1).trans rfl, (blk_cell BK179.out 0).trans rfl, (blk_cell BK179.out 1).trans rfl, ((HB.out.cell (World.block_lt_of_cell? w _ hw189_0)).trans hw189_0), ((HB.out.cell (World.block_lt_of_cell? w _ hw190_0)).trans hw190_0)⟩ (fun hHeld => ?_)
                           clear hK K
                           refine norm_ (a' := ?_) ?_ ?_
                           rotate_left
                           · show Act.put _ (some 61) _ = _
                             simp only [Act.put, List.setIfInBounds_toArray, List.set_cons_zero, List.set_cons_succ, i64_w, i32_w]
                             rfl
                           refine one_ (i := 15) (N := some 62) #[true, true, true, true, true, true, true, true, true, true, true, true, true, true, true, true, false, false, false] rfl rfl (one_of HT_.out (by kernel_rfl)) (by decide) (fun K hK => ?_)
                           refine Kd.N_lit_step (Kd.slice 2 (Kd.int .i64)) _ 22 ?hg (N' := 62) ?hd (xs := ([y191] : List (List Int))) (inner := [.slice Ao55 y191.length co55]) (ok := (fun k_ => (w.heap.size ≤ k_) ∧ some k_ ≠ (.slice Ao46 t182.length co46 : Value).ownBlock ∧ some k_ ≠ (.slice Ao50 t185.length co50 : Value).ownBlock ∧ k_ ≠ gb179 ∧ k_ ≠ gb180 ∧ k_ ≠ gb188)) (okp := (fun k_ => (w.heap.size ≤ k_) ∧ some k_ ≠ (.slice Ao46 t182.length co46 : Value).ownBlock ∧ some k_ ≠ (.slice Ao50 t185.length co50 : Value).ownBlock ∧ k_ ≠ gb179 ∧ k_ ≠ gb180 ∧ k_ ≠ gb188)) ?hr ?hp (fun _ hk => hk) ((show ∀ k_, w53.heap.size ≤ k_ → (fun k_ => (w.heap.size ≤ k_) ∧ some k_ ≠ (.slice Ao46 t182.length co46 : Value).ownBlock ∧ some k_ ≠ (.slice Ao50 t185.length co50 : Value).ownBlock ∧ k_ ≠ gb179 ∧ k_ ≠ gb180 ∧ k_ ≠ gb188) k_ from fun k_ hk => ⟨(Nat.le_trans (below_size (by repeat ((with_reducible exact HB.out)))) hk), Kd.fresh' (Kd.R_lt (by (with_reducible repeat (apply Kd.R_drew)); exact HO184.out)) k_ hk, Kd.fresh' (Kd.N_lt (by (with_reducible repeat (apply Kd.N_drew)); exact HO187.out)) k_ hk, Kd.freshB (g := gb179) (o := .cells #[.slice (some ad189) l0_0.length c0_0, .slice A0_1 l0_1.length c0_1] 36 (0, 0)) (by (with_reducible repeat (refine blk_drew ?_)); exact BK179.out) k_ hk, Kd.freshB (g := gb180) (o := .cells #[.slice none 0 0, .slice none 0 0] 36 (0, 0)) (by (with_reducible repeat (refine blk_drew ?_)); exact BK180.out) k_ hk, Kd.freshB (g := gb188) (o := .cells #[.slice Ao46 t182.length co46, .slice Ao50 t185.length co50] 36 (0, 0)) (by (with_reducible repeat (refine blk_drew ?_)); exact BK188.out) k_ hk⟩) _ (Nat.le_refl _)) (Below.refl _ _) (Nat.le_refl _) (by simp) ?_; (case hd => rfl); (case hg => rfl); (case hr => (go_simp; done)); (case hp => exact (Reps.one (show Kd.FK (Kd.slice 2 (Kd.int .i64)) _ _ y191 [.slice Ao55 y191.length co55] from (Kd.FK_slice_mk (Kd.R_reads' (Kd.R_mono (ok' := (fun k_ => (w.heap.size ≤ k_) ∧ some k_ ≠ (.slice Ao46 t182.length co46 : Value).ownBlock ∧ some k_ ≠ (.slice Ao50 t185.length co50 : Value).ownBlock ∧ k_ ≠ gb179 ∧ k_ ≠ gb180 ∧ k_ ≠ gb188)) (Kd.R_types (Kd.R_types (Kd.R_types (Kd.R_apart' (HO193.out) (Kd.N_typed HO187.out) (by decide)) BK179.out (by decide)) BK180.out (by decide)) BK188.out (by decide)) (fun k_ hk => ⟨hk.1.1.1.1.1.1, ⟨hk.1.1.1.1.2, ⟨hk.1.1.1.2, ⟨hk.1.1.2, ⟨hk.1.2, hk.2⟩⟩⟩⟩⟩))).2.1 (Kd.R_F (Kd.R_mono (ok' := (fun k_ => (w.heap.size ≤ k_) ∧ some k_ ≠ (.slice Ao46 t182.length co46 : Value).ownBlock ∧ some k_ ≠ (.slice Ao50 t185.length co50 : Value).ownBlock ∧ k_ ≠ gb179 ∧ k_ ≠ gb180 ∧ k_ ≠ gb188)) (Kd.R_types (Kd.R_types (Kd.R_types (Kd.R_apart' (HO193.out) (Kd.N_typed HO187.out) (by decide)) BK179.out (by decide)) BK180.out (by decide)) BK188.out (by decide)) (fun k_ hk => ⟨hk.1.1.1.1.1.1, ⟨hk.1.1.1.1.2, ⟨hk.1.1.1.2, ⟨hk.1.1.2, ⟨hk.1.2, hk.2⟩⟩⟩⟩⟩))))) (Reps.none _ _)))
                           intro v195 w56 ho57 hb hg_ hnew_
                           clear hg_ hnew_
                           (rw [← Ny194.out] at ho57)
                           have n0_ := Aside0.mk (Kd.R_below (by (with_reducible repeat (apply Kd.R_drew)); exact HO184.out) hb)
                           have n1_ := Aside0.mk (Kd.N_elder' (by (with_reducible repeat (apply Kd.N_drew)); exact HO187.out) (Kd.N_base ho57) hb)
                           have n2_ := Aside0.mk (Kd.N_lower ho57 (below_size (by repeat ((with_reducible exact HB.out)))))
                           have n3_ := Aside0.mk (blk_below (g := gb179) (o := .cells #[.slice (some ad189) l0_0.length c0_0, .slice A0_1 l0_1.length c0_1] 36 (0, 0)) (by (with_reducible repeat (refine blk_drew ?_)); exact BK179.out) hb)
                           have n4_ := Aside0.mk (blk_below (g := gb180) (o := .cells #[.slice none 0 0, .slice none 0 0] 36 (0, 0)) (by (with_reducible repeat (refine blk_drew ?_)); exact BK180.out) hb)
                           have n5_ := Aside0.mk (blk_below (g := gb188) (o := .cells #[.slice Ao46 t182.length co46, .slice Ao50 t185.length co50] 36 (0, 0)) (by (with_reducible repeat (refine blk_drew ?_)); exact BK188.out) hb)
                           have n6_ := Aside0.mk (below_step (by repeat ((with_reducible exact HB.out))) hb)
                           clear HO184
                           clear HO187
                           clear BK179
                           clear BK180
                           clear BK188
                           clear HB
                           clear HO193
                           have HO184 := n0_
                           have HO187 := n1_
                           have HO196 := n2_
                           have BK179 := n3_
                           have BK180 := n4_
                           have BK188 := n5_
                           have HB := n6_
                           clear n0_ n1_ n2_ n3_ n4_ n5_ n6_
                           clear hb ho57
                           obtain ⟨Ao59, co59, eo59⟩ := Kd.N_slice HO196.out
                           (subst eo59)
                           refine hK.out _ _ ⟨(blk_cell BK188.out 0).trans rfl, (blk_cell BK188.out 1).trans rfl, (blk_cell BK179.out 0).trans rfl, (blk_cell BK179.out 1).trans rfl, ((HB.out.cell (World.block_lt_of_cell? w _ hw189_0)).trans hw189_0), ((HB.out.cell (World.block_lt_of_cell? w _ hw190_0)).trans hw190_0)⟩ (fun hHeld => ?_)
                           clear hK K
                           refine norm_ (a' := ?_) ?_ ?_
                           rotate_left
                           · show Act.put _ (some 62) _ = _
                             simp only [Act.put, List.setIfInBounds_toArray, List.set_cons_zero, List.set_cons_succ, i64_w, i32_w]
                             rfl
                           refine one_ (i := 16) (N := some 63) #[true, true, true, true, true, true, true, true, true, true, true, true, true, true, true, true, true, false, false] rfl rfl (one_of HT_.out (by kernel_rfl)) (by decide) (fun K hK => ?_)
                           refine Kd.N_append_rows_step (Kd.slice 2 (Kd.int .i64)) (w0 := w) w.heap.size (by rfl) (.tmp 48) (.tmp 62) 26 22 (.slice none 0 0) 24 rfl Try.underlying26 info22 rfl (by decide) (by omega) (.slice Ao50 t185.length co50) t185 y194 _ _ _ (fun k_ => (w.heap.size ≤ k_) ∧ some k_ ≠ (.slice Ao46 t182.length co46 : Value).ownBlock ∧ k_ ≠ gb179 ∧ k_ ≠ gb180 ∧ k_ ≠ gb188) (fun k_ => ((fun k_ => (w.heap.size ≤ k_) ∧ some k_ ≠ (.slice Ao46 t182.length co46 : Value).ownBlock ∧ k_ ≠ gb179 ∧ k_ ≠ gb180 ∧ k_ ≠ gb188)) k_ ∧ some k_ ≠ (.slice Ao50 t185.length co50 : Value).ownBlock) rfl rfl ?aO ?aR (fun _ hk => hk) ?aF ?aB ?aS ?aL ?_
                           (case aR => exact (by skip; exact Kd.N_F (Kd.N_mono (ok' := (fun k_ => ((fun k_ => (w.heap.size ≤ k_) ∧ some k_ ≠ (.slice Ao46 t182.length co46 : Value).ownBlock ∧ k_ ≠ gb179 ∧ k_ ≠ gb180 ∧ k_ ≠ gb188)) k_ ∧ some k_ ≠ (.slice Ao50 t185.length co50 : Value).ownBlock)) (HO196.out) (fun k_ hk => ⟨⟨hk.1, ⟨hk.2.1, ⟨hk.2.2.2.1, ⟨hk.2.2.2.2.1, hk.2.2.2.2.2⟩⟩⟩⟩, hk.2.2.1⟩))))
                           (case aB => exact (by repeat ((with_reducible exact HB.out))))
                           (case aF => exact (fun k_ hk => ⟨(Nat.le_trans (below_size (by repeat ((with_reducible exact HB.out)))) hk), Kd.fresh' (Kd.R_lt (by (with_reducible repeat (apply Kd.R_drew)); exact HO184.out)) k_ hk, Kd.freshB (g := gb179) (o := .cells #[.slice (some ad189) l0_0.length c0_0, .slice A0_1 l0_1.length c0_1] 36 (0, 0)) (by (with_reducible repeat (refine blk_drew ?_)); exact BK179.out) k_ hk, Kd.freshB (g := gb180) (o := .cells #[.slice none 0 0, .slice none 0 0] 36 (0, 0)) (by (with_reducible repeat (refine blk_drew ?_)); exact BK180.out) k_ hk, Kd.freshB (g := gb188) (o := .cells #[.slice Ao46 t182.length co46, .slice Ao50 t185.length co50] 36 (0, 0)) (by (with_reducible repeat (refine blk_drew ?_)); exact BK188.out) k_ hk⟩))
                           (case aO => exact (by (with_reducible repeat (apply Kd.N_drew)); exact Kd.N_mono HO187.out (fun _ hk => ⟨hk.1.1.1, ⟨hk.1.1.2.1, ⟨hk.1.1.2.2.1, ⟨hk.1.1.2.2.2.1, hk.1.1.2.2.2.2⟩⟩⟩⟩)))
                           (case aS => exact (below_size (by repeat ((with_reducible exact HB.out)))))
                           (case aL => have := LMc33.out; omega)
                           intro v198 w58 ho hb hg hat
                           rw [← Ny197.out] at ho
                           have n0_ := Aside0.mk (blk_grown (g := gb179) (o := .cells #[.slice (some ad189) l0_0.length c0_0, .slice A0_1 l0_1.length c0_1] 36 (0, 0)) (by (with_reducible repeat (refine blk_drew ?_)); exact BK179.out) hg (Kd.N_ne HO187.out BK179.out (by decide)))
                           have n1_ := Aside0.mk (blk_grown (g := gb180) (o := .cells #[.slice none 0 0, .slice none 0 0] 36 (0, 0)) (by (with_reducible repeat (refine blk_drew ?_)); exact BK180.out) hg (Kd.N_ne HO187.out BK180.out (by decide)))
                           have n2_ := Aside0.mk (Kd.R_over' (by (with_reducible repeat (apply Kd.R_drew)); exact HO184.out) (Kd.N_typed (by (with_reducible repeat (apply Kd.N_drew)); exact HO187.out)) (by decide) hg)
                           have n3_ := Aside0.mk (blk_grown (g := gb188) (o := .cells #[.slice Ao46 t182.length co46, .slice Ao50 t185.length co50] 36 (0, 0)) (by (with_reducible repeat (refine blk_drew ?_)); exact BK188.out) hg (Kd.N_ne HO187.out BK188.out (by decide)))
                           have n4_ := Aside0.mk (Kd.N_afterv (ok := (fun k_ => (w.heap.size ≤ k_) ∧ some k_ ≠ (.slice Ao46 t182.length co46 : Value).ownBlock ∧ k_ ≠ gb179 ∧ k_ ≠ gb180 ∧ k_ ≠ gb188)) (by (with_reducible repeat (apply Kd.N_drew)); exact Kd.N_mono HO196.out (fun _ hk => ⟨⟨hk.1, ⟨hk.2.1, ⟨hk.2.2.2.1, ⟨hk.2.2.2.2.1, hk.2.2.2.2.2⟩⟩⟩⟩, hk.2.2.1⟩)) hg hat)
                           have n5_ := Aside0.mk (hb)
                           have n6_ := Aside0.mk (ho)
                           clear BK179
                           clear BK180
                           clear HO184
                           clear BK188
                           clear HO196
                           clear HB
                           clear HO187
                           have BK179 := n0_
                           have BK180 := n1_
                           have HO184 := n2_
                           have BK188 := n3_
                           have HO196 := n4_
                           have HB := n5_
                           have HO199 := n6_
                           clear n0_ n1_ n2_ n3_ n4_ n5_ n6_
                           clear ho hb hg hat
                           obtain ⟨Ao60, co60, eo60⟩ := Kd.N_slice HO199.out
                           (subst eo60)
                           refine hK.out _ _ ⟨(blk_cell BK188.out 0).trans rfl, (blk_cell BK188.out 1).trans rfl, (blk_cell BK179.out 0).trans rfl, (blk_cell BK179.out 1).trans rfl, ((HB.out.cell (World.block_lt_of_cell? w _ hw189_0)).trans hw189_0), ((HB.out.cell (World.block_lt_of_cell? w _ hw190_0)).trans hw190_0)⟩ (fun hHeld => ?_)
                           clear hK K
                           refine norm_ (a' := ?_) ?_ ?_
                           rotate_left
                           · show Act.put _ (some 63) _ = _
                             simp only [Act.put, List.setIfInBounds_toArray, List.set_cons_zero, List.set_cons_succ, i64_w, i32_w]
                             rfl
                           refine pure_ (i := 17) (N := some 64) (v := ?_) (a' := ?_) #[true, true, true, true, true, true, true, true, true, true, true, true, true, true, true, true, true, true, false] rfl rfl (any_of HT_.out (by kernel_rfl)) (fun _ _ _ h => h) (Or.inl ⟨by rfl, ?_⟩) ?_ ?_
                           rotate_left
                           · intro w'
                             go_simp
                             with_reducible rfl
                           rotate_left
                           · simp only [Act.put, List.setIfInBounds_toArray, List.set_cons_zero, List.set_cons_succ, i64_w, i32_w]
                             rfl
                           refine last_ (i := 18) (N := none) #[true, true, true, true, true, true, true, true, true, true, true, true, true, true, true, true, true, true, true] rfl rfl (one_of HT_.out (by kernel_rfl)) (by decide) (fun K hK => ?_)
                           have hs61 : w58.cell? ⟨gb188, 1, none⟩ = some (.slice Ao50 t185.length co50) := (blk_cell BK188.out 1).trans rfl
                           have hfs61 := blk_frozen BK188.out 1
                           have hns61_0 := NB179_188.out
                           have hns61_1 := NB180_188.out
                           have hms61_0 := NB188_179.out
                           have hms61_1 := NB188_180.out
                           refine skip_ (w1 := ?_) (by rfl) rfl ?_ ?_
                           rotate_left
                           · go_simp
                             rfl
                           refine hK.out _ _ ?_
                           clear hK K
                           refine done_ (done_of HT_.out (by kernel_rfl)) ?_
                           try go_wp2
                           have n0_ : Aside0 (Kd.R (Kd.int .i64) 2 (w58.setCell ⟨gb188, 1, none⟩ (.slice Ao60 y197.length co60)) w.heap.size (fun k_ => (w.heap.size ≤ k_)) (.slice Ao46 t182.length co46) t182) := ⟨by (with_reducible repeat (apply Kd.R_drew)); exact Kd.R_mono (Kd.R_far (p := ⟨gb188, 1, none⟩) (Kd.R_types HO184.out BK188.out (by decide)) (fun _ hk => hk.2) (.slice Ao60 y197.length co60)) (fun _ hk => hk.1.1)⟩
                           have n1_ : Aside0 (Kd.N (Kd.slice 2 (Kd.int .i64)) 22 (w58.setCell ⟨gb188, 1, none⟩ (.slice Ao60 y197.length co60)) w.heap.size (fun k_ => (w.heap.size ≤ k_) ∧ some k_ ≠ (.slice Ao46 t182.length co46 : Value).ownBlock ∧ some k_ ≠ (.slice Ao60 y197.length co60 : Value).ownBlock ∧ k_ ≠ gb179 ∧ k_ ≠ gb180 ∧ k_ ≠ gb188) (.slice Ao59 y194.length co59) y194) := ⟨by (with_reducible repeat (apply Kd.N_drew)); exact Kd.N_mono (Kd.N_far (p := ⟨gb188, 1, none⟩) (Kd.N_mono HO196.out (fun k_ hk => (⟨hk, hk.1.2.2.2.2⟩ : _ ∧ k_ ≠ gb188))) (fun _ hk => hk.2) (.slice Ao60 y197.length co60)) (fun _ hk => ⟨hk.1.1.1, ⟨hk.1.1.2.1, ⟨hk.1.2, ⟨hk.1.1.2.2.1, ⟨hk.1.1.2.2.2.1, hk.1.1.2.2.2.2⟩⟩⟩⟩⟩)⟩
                           have n2_ : Aside0 (Kd.N (Kd.slice 2 (Kd.int .i64)) 22 (w58.setCell ⟨gb188, 1, none⟩ (.slice Ao60 y197.length co60)) w.heap.size (fun k_ => (w.heap.size ≤ k_) ∧ some k_ ≠ (.slice Ao46 t182.length co46 : Value).ownBlock ∧ k_ ≠ gb179 ∧ k_ ≠ gb180 ∧ k_ ≠ gb188) (.slice Ao60 y197.length co60) y197) := ⟨by (with_reducible repeat (apply Kd.N_drew)); exact Kd.N_mono (Kd.N_far (p := ⟨gb188, 1, none⟩) (Kd.N_mono HO199.out (fun k_ hk => (⟨hk, hk.2.2.2.2⟩ : _ ∧ k_ ≠ gb188))) (fun _ hk => hk.2) (.slice Ao60 y197.length co60)) (fun _ hk => ⟨hk.1.1, ⟨hk.1.2.1, ⟨hk.1.2.2.1, ⟨hk.1.2.2.2.1, hk.1.2.2.2.2⟩⟩⟩⟩)⟩
                           have n3_ : Aside0 ((w58.setCell ⟨gb188, 1, none⟩ (.slice Ao60 y197.length co60)).heap[gb179]? = some (.cells #[.slice (some ad189) l0_0.length c0_0, .slice A0_1 l0_1.length c0_1] 36 (0, 0))) := ⟨by (with_reducible repeat (refine blk_drew ?_)); refine blk_far ?_ NB179_188.out _; (with_reducible repeat (refine blk_drew ?_)); exact BK179.out⟩
                           have n4_ : Aside0 ((w58.setCell ⟨gb188, 1, none⟩ (.slice Ao60 y197.length co60)).heap[gb180]? = some (.cells #[.slice none 0 0, .slice none 0 0] 36 (0, 0))) := ⟨by (with_reducible repeat (refine blk_drew ?_)); refine blk_far ?_ NB180_188.out _; (with_reducible repeat (refine blk_drew ?_)); exact BK180.out⟩
                           have n5_ : Aside0 ((w58.setCell ⟨gb188, 1, none⟩ (.slice Ao60 y197.length co60)).heap[gb188]? = some (.cells #[.slice Ao46 t182.length co46, .slice Ao60 y197.length co60] 36 (0, 0))) := ⟨by (with_reducible repeat (refine blk_drew ?_)); refine blk_put (cs := #[.slice Ao46 t182.length co46, .slice Ao50 t185.length co50]) ?_ 1 _ rfl; (with_reducible repeat (refine blk_drew ?_)); exact BK188.out⟩
                           have n6_ : Aside0 (Below w.heap.size w (w58.setCell ⟨gb188, 1, none⟩ (.slice Ao60 y197.length co60))) := ⟨by repeat ((with_reducible first | exact HB.out | refine below_set ?_ GE188.out))⟩
                           (try clear HO184)
                           (try clear HO196)
                           (try clear HO199)
                           (try clear BK179)
                           (try clear BK180)
                           (try clear BK188)
                           (try clear HB)
                           generalize (w58.setCell ⟨gb188, 1, none⟩ (.slice Ao60 y197.length co60)) = w62 at n0_ n1_ n2_ n3_ n4_ n5_ n6_ ⊢
                           have HO184 := n0_
                           have HO196 := n1_
                           have HO199 := n2_
                           have BK179 := n3_
                           have BK180 := n4_
                           have BK188 := n5_
                           have HB := n6_
                           clear n0_ n1_ n2_ n3_ n4_ n5_ n6_
                           have n0_ := Aside0.mk (Kd.R_drew HO184.out)
                           have n1_ := Aside0.mk (Kd.N_drew HO196.out)
                           have n2_ := Aside0.mk (Kd.N_drew HO199.out)
                           have n3_ := Aside0.mk (blk_drew BK179.out)
                           have n4_ := Aside0.mk (blk_drew BK180.out)
                           have n5_ := Aside0.mk (blk_drew BK188.out)
                           have n6_ := Aside0.mk (below_drew1 HB.out)
                           clear HO184
                           clear HO196
                           clear HO199
                           clear BK179
                           clear BK180
                           clear BK188
                           clear HB
                           have HO184 := n0_
                           have HO196 := n1_
                           have HO199 := n2_
                           have BK179 := n3_
                           have BK180 := n4_
                           have BK188 := n5_
                           have HB := n6_
                           clear n0_ n1_ n2_ n3_ n4_ n5_ n6_
                           obtain ⟨i064, hi064, _, hsz64, _⟩ := info_parts info2
                           obtain ⟨hcut64, hA64, hC64⟩ := print_take_of (P := Try.prog) (Value.int .i64) 0 22 2 .i64 Try.underlying22 hi064 hsz64 (some ad189) c0_0 l0_0 a1 (of_decide_eq_true (by (with_reducible assumption))) (of_decide_eq_true (by (with_reducible assumption))) HC0_0.out
                           have HR200 := Aside0.mk (Kd.C_of_reads (h1 := fun _ => rfl) (hA64 _ (Kd.reads_of_C HR0_0.out)))
                           have HC200 := Aside0.mk hC64
                           clear hA64 hC64 hi064 hsz64
                           obtain ⟨i065, hi065, _, hsz65, _⟩ := info_parts info2
                           obtain ⟨A65, hcut65, hA65, hC65⟩ := print_drop_of (P := Try.prog) (Value.int .i64) 0 22 2 .i64 Try.underlying22 hi065 hsz65 (some ad189) c0_0 l0_0 (ji38) (of_decide_eq_true (by (with_reducible assumption))) (of_decide_eq_true (by (with_reducible assumption))) HC0_0.out
                           have HR210 := Aside0.mk (Kd.C_of_reads (h1 := fun _ => rfl) (hA65 _ (Kd.reads_of_C HR0_0.out)))
                           have HC210 := Aside0.mk hC65
                           clear hA65 hC65 hi065 hsz65
                           refine start_ (n := 16) (S := fun w' => w'.cell? ⟨gb179, 0, none⟩ = some (.slice (some ad189) l0_0.length c0_0) ∧ w'.cell? ⟨gb179, 1, none⟩ = some (.slice A0_1 l0_1.length c0_1)) (ds := []) #[false, false, false, false, false, false, false, false, false, false, false, false, false, false, false, false] (by kernel_rfl) rfl rfl ⟨(blk_cell BK179.out 0).trans rfl, (blk_cell BK179.out 1).trans rfl⟩ (fun hHeld => ?_); refine with_tabW spec_ForkLegs.tab16 spec_ForkLegs.bits16 (fun HT_ HW_ => ?_)
                           generalize w62.drew = w63 at HO184 HO196 HO199 BK179 BK180 BK188 HB HR200 HR210 hHeld ⊢
                           refine pure_ (i := 0) (N := some 65) (v := ?_) (a' := ?_) #[true, false, false, false, false, false, false, false, false, false, false, false, false, false, false, false] rfl rfl (any_of HT_.out (by kernel_rfl)) (fun _ _ _ h => h) (Or.inl ⟨by rfl, ?_⟩) ?_ ?_
                           rotate_left
                           · intro w'
                             go_simp
                             with_reducible rfl
                           rotate_left
                           · simp only [Act.put, List.setIfInBounds_toArray, List.set_cons_zero, List.set_cons_succ, i64_w, i32_w]
                             rfl
                           refine pure_ (i := 2) (N := some 67) (v := ?_) (a' := ?_) #[true, false, true, false, false, false, false, false, false, false, false, false, false, false, false, false] rfl rfl (any_of HT_.out (by kernel_rfl)) (fun _ _ _ h => h) (Or.inl ⟨by rfl, ?_⟩) ?_ ?_
                           rotate_left
                           · intro w'
                             go_simp
                             with_reducible rfl
                           rotate_left
                           · simp only [Act.put, List.setIfInBounds_toArray, List.set_cons_zero, List.set_cons_succ, i64_w, i32_w]
                             rfl
                           refine pure_ (i := 5) (N := some 70) (v := ?_) (a' := ?_) #[true, false, true, false, false, true, false, false, false, false, false, false, false, false, false, false] rfl rfl (any_of HT_.out (by kernel_rfl)) (fun _ _ _ h => h) (Or.inl ⟨by rfl, ?_⟩) ?_ ?_
                           rotate_left
                           · intro w'
                             go_simp
                             with_reducible rfl
                           rotate_left
                           · simp only [Act.put, List.setIfInBounds_toArray, List.set_cons_zero, List.set_cons_succ, i64_w, i32_w]
                             rfl
                           refine pure_ (i := 8) (N := some 73) (v := ?_) (a' := ?_) #[true, false, true, false, false, true, false, false, true, false, false, false, false, false, false, false] rfl rfl (any_of HT_.out (by kernel_rfl)) (fun _ _ _ h => h) (Or.inl ⟨by rfl, ?_⟩) ?_ ?_
                           rotate_left
                           · intro w'
                             go_simp
                             with_reducible rfl
                           rotate_left
                           · simp only [Act.put, List.setIfInBounds_toArray, List.set_cons_zero, List.set_cons_succ, i64_w, i32_w]
                             rfl
                           refine pure_ (i := 10) (N := some 75) (v := ?_) (a' := ?_) #[true, false, true, false, false, true, false, false, true, false, true, false, false, false, false, false] rfl rfl (any_of HT_.out (by kernel_rfl)) (fun _ _ _ h => h) (Or.inl ⟨by rfl, ?_⟩) ?_ ?_
                           rotate_left
                           · intro w'
                             go_simp
                             with_reducible rfl
                           rotate_left
                           · simp only [Act.put, List.setIfInBounds_toArray, List.set_cons_zero, List.set_cons_succ, i64_w, i32_w]
                             rfl
                           refine pure_ (i := 11) (N := some 76) (v := ?_) (a' := ?_) #[true, false, true, false, false, true, false, false, true, false, true, true, false, false, false, false] rfl rfl (any_of HT_.out (by kernel_rfl)) (fun _ _ _ h => h) (Or.inl ⟨by rfl, ?_⟩) ?_ ?_
                           rotate_left
                           · intro w'
                             go_simp
                             with_reducible rfl
                           rotate_left
                           · simp only [Act.put, List.setIfInBounds_toArray, List.set_cons_zero, List.set_cons_succ, i64_w, i32_w]
                             rfl
                           refine take_ (i := 1) (N := some 66) (v := ?_) (a' := ?_) #[true, true, true, false, false, true, false, false, true, false, true, true, false, false, false, false] rfl rfl (take_ofW HT_.out HW_.out (by kernel_rfl)) (fun _ _ _ h => h) (Or.inl ⟨by rfl, ?_⟩) hHeld ?_ ?_
                           rotate_left
                           · rintro w' ⟨s0, s1⟩
                             go_simp
                             with_reducible rfl
                           rotate_left
                           · simp only [Act.put, List.setIfInBounds_toArray, List.set_cons_zero, List.set_cons_succ, i64_w, i32_w]
                             rfl
                           refine pure_ (i := 3) (N := some 68) (v := ?_) (a' := ?_) #[true, true, true, true, false, true, false, false, true, false, true, true, false, false, false, false] rfl rfl (any_of HT_.out (by kernel_rfl)) (fun _ _ _ h => h) (Or.inl ⟨by rfl, ?_⟩) ?_ ?_
                           rotate_left
                           · intro w'
                             go_simp
                             with_reducible rfl
                           rotate_left
                           · simp only [Act.put, List.setIfInBounds_toArray, List.set_cons_zero, List.set_cons_succ, i64_w, i32_w]
                             rfl
                           refine take_ (i := 9) (N := some 74) (v := ?_) (a' := ?_) #[true, true, true, true, false, true, false, false, true, true, true, true, false, false, false, false] rfl rfl (take_ofW HT_.out HW_.out (by kernel_rfl)) (fun _ _ _ h => h) (Or.inl ⟨by rfl, ?_⟩) hHeld ?_ ?_
                           rotate_left
                           · rintro w' ⟨s0, s1⟩
                             go_simp
                             with_reducible rfl
                           rotate_left
                           · simp only [Act.put, List.setIfInBounds_toArray, List.set_cons_zero, List.set_cons_succ, i64_w, i32_w]
                             rfl
                           refine pure_ (i := 12) (N := some 77) (v := ?_) (a' := ?_) #[true, true, true, true, false, true, false, false, true, true, true, true, true, false, false, false] rfl rfl (any_of HT_.out (by kernel_rfl)) (fun _ _ _ h => h) (Or.inl ⟨by rfl, ?_⟩) ?_ ?_
                           rotate_left
                           · intro w'
                             go_simp
                             with_reducible rfl
                           rotate_left
                           · simp only [Act.put, List.setIfInBounds_toArray, List.set_cons_zero, List.set_cons_succ, i64_w, i32_w]
                             rfl
                           refine join_ (σ := Value × Value) 4 #[true, true, true, true, true, true, true, false, true, true, true, true, true, false, false, false] (fun s_ => [(69, s_.1), (71, s_.2)]) (fun s_ w' => (w'.cell? ⟨gb179, 0, none⟩ = some (.slice (some ad189) l0_0.length c0_0) ∧ w'.cell? ⟨gb179, 1, none⟩ = some (.slice A0_1 l0_1.length c0_1)) ∧ (Kd.R (Kd.int .i64) 2 w' w.heap.size (fun k_ => (w.heap.size ≤ k_) ∧ some k_ ≠ (s_.1 : Value).ownBlock ∧ some k_ ≠ (s_.2 : Value).ownBlock) (.slice Ao46 t182.length co46) t182) ∧ (Kd.N (Kd.slice 2 (Kd.int .i64)) 22 w' w.heap.size (fun k_ => (w.heap.size ≤ k_) ∧ some k_ ≠ (.slice Ao46 t182.length co46 : Value).ownBlock ∧ some k_ ≠ (.slice Ao60 y197.length co60 : Value).ownBlock ∧ some k_ ≠ (s_.1 : Value).ownBlock ∧ some k_ ≠ (s_.2 : Value).ownBlock ∧ k_ ≠ gb179 ∧ k_ ≠ gb180 ∧ k_ ≠ gb188) (.slice Ao59 y194.length co59) y194) ∧ (Kd.N (Kd.slice 2 (Kd.int .i64)) 22 w' w.heap.size (fun k_ => (w.heap.size ≤ k_) ∧ some k_ ≠ (.slice Ao46 t182.length co46 : Value).ownBlock ∧ some k_ ≠ (s_.1 : Value).ownBlock ∧ some k_ ≠ (s_.2 : Value).ownBlock ∧ k_ ≠ gb179 ∧ k_ ≠ gb180 ∧ k_ ≠ gb188) (.slice Ao60 y197.length co60) y197) ∧ (Kd.R (Kd.int .i64) 2 w' w.heap.size (fun k_ => (w.heap.size ≤ k_) ∧ some k_ ≠ (.slice Ao46 t182.length co46 : Value).ownBlock ∧ some k_ ≠ (s_.2 : Value).ownBlock) s_.1 t201) ∧ (Kd.R (Kd.int .i64) 2 w' w.heap.size (fun k_ => (w.heap.size ≤ k_) ∧ some k_ ≠ (.slice Ao46 t182.length co46 : Value).ownBlock ∧ some k_ ≠ (s_.1 : Value).ownBlock) s_.2 y204) ∧ (w'.heap[gb179]? = some (.cells #[.slice (some ad189) l0_0.length c0_0, .slice A0_1 l0_1.length c0_1] 36 (0, 0))) ∧ (w'.heap[gb180]? = some (.cells #[.slice none 0 0, .slice none 0 0] 36 (0, 0))) ∧ (w'.heap[gb188]? = some (.cells #[.slice Ao46 t182.length co46, .slice Ao60 y197.length co60] 36 (0, 0))) ∧ (Below w.heap.size w w')) ?_ ?_
                           rotate_left
                           · intro hCont
                             refine two_ (i := 4) (j := 6) (Ni := some 69) (Nj := some 71) #[true, true, true, true, true, true, false, false, true, true, true, true, true, false, false, false] #[true, true, true, true, false, true, true, false, true, true, true, true, true, false, false, false] rfl rfl rfl rfl (two_of HT_.out (by kernel_rfl)) (by decide) (by decide) (fun K hK => ?_) (fun K hK => ?_)
                             · skip
                               refine goes_ Try.func39 (by kernel_rfl) rfl #[.slice (some ad189) (l0_0.take (a1 : Int).toNat).length c0_0] (by rfl) rfl rfl (by (try simp only [List.map_toArray, List.map_cons, List.map_nil]); (rw [show (l0_0.take (a1 : Int).toNat).length = a1.toNat from (by rw [List.length_take]; have h_ : (a1 : Int) ≤ (l0_0.length : Int) := of_decide_eq_true (by (with_reducible assumption)); omega)] <;> rfl)) ?_
                               with_reducible refine (spec_l01Own.calls _ _ (l0_0.take (a1 : Int).toNat) t201 _ ?side1 ?side2 A36.out).mono ?_
                               (case side1 => repeat (exact (Kd.C_below HR200.out HB.out)))
                               (case side2 => exact HC200.out)
                               rintro e w66 ⟨v202, rfl, ho0, hb⟩
                               refine ⟨_, rfl, ?_⟩
                               have n0_ := Aside0.mk (Kd.R_elder' (by (with_reducible repeat (apply Kd.R_drew)); exact HO184.out) (Kd.R_base ho0) hb)
                               have n1_ := Aside0.mk (Kd.N_elder' (by (with_reducible repeat (apply Kd.N_drew)); exact HO196.out) (Kd.R_base ho0) hb)
                               have n2_ := Aside0.mk (Kd.N_elder' (by (with_reducible repeat (apply Kd.N_drew)); exact HO199.out) (Kd.R_base ho0) hb)
                               have n3_ := Aside0.mk (Kd.R_lower (Kd.R_new' (Kd.R_newM (M := fun k_ => (w.heap.size ≤ k_)) ho0 (below_size (by repeat ((with_reducible exact HB.out)))) (fun k_ h_ => h_)) (Kd.R_lt (by (with_reducible repeat (apply Kd.R_drew)); exact HO184.out))) (below_size (by repeat ((with_reducible exact HB.out)))))
                               have n4_ := Aside0.mk (blk_below (g := gb179) (o := .cells #[.slice (some ad189) l0_0.length c0_0, .slice A0_1 l0_1.length c0_1] 36 (0, 0)) (by (with_reducible repeat (refine blk_drew ?_)); exact BK179.out) hb)
                               have n5_ := Aside0.mk (blk_below (g := gb180) (o := .cells #[.slice none 0 0, .slice none 0 0] 36 (0, 0)) (by (with_reducible repeat (refine blk_drew ?_)); exact BK180.out) hb)
                               have n6_ := Aside0.mk (blk_below (g := gb188) (o := .cells #[.slice Ao46 t182.length co46, .slice Ao60 y197.length co60] 36 (0, 0)) (by (with_reducible repeat (refine blk_drew ?_)); exact BK188.out) hb)
                               have n7_ := Aside0.mk (below_step (by repeat ((with_reducible exact HB.out))) hb)
                               clear HO184
                               clear HO196
                               clear HO199
                               clear BK179
                               clear BK180
                               clear BK188
                               clear HB
                               have HO184 := n0_
                               have HO196 := n1_
                               have HO199 := n2_
                               have HO203 := n3_
                               have BK179 := n4_
                               have BK180 := n5_
                               have BK188 := n6_
                               have HB := n7_
                               clear n0_ n1_ n2_ n3_ n4_ n5_ n6_ n7_
                               (try clear hb)
                               (try clear hb2)
                               (try clear hk)
                               (try clear hi)
                               (try clear ho0)
                               refine hK.out _ _ ⟨(blk_cell BK179.out 0).trans rfl, (blk_cell BK179.out 1).trans rfl⟩ (fun hHeld => ?_)
                               clear hK K
                               refine norm_ (a' := ?_) ?_ ?_
                               rotate_left
                               · show Act.put _ (some 69) _ = _
                                 simp only [Act.put, List.setIfInBounds_toArray, List.set_cons_zero, List.set_cons_succ, i64_w, i32_w]
                                 rfl
                               refine one_ (i := 6) (N := some 71) #[true, true, true, true, true, true, true, false, true, true, true, true, true, false, false, false] rfl rfl (one_of HT_.out (by kernel_rfl)) (by decide) (fun K hK => ?_)
                               refine Kd.R_lit_step (Kd.int .i64) _ 2 ?hg (N := 71) ?hd (xs := ([x7_1] : List Int)) (inner := [.int .i64 x7_1]) (ok := fun _ => True) (okp := fun _ => True) ?hr ?hp (fun _ hk => hk) trivial (Below.refl _ _) (Nat.le_refl _) (by simp) ?_; (case hd => rfl); (case hg => rfl); (case hr => (go_simp; done)); (case hp => exact (Reps.one (show Kd.M (Kd.int .i64) _ _ _ x7_1 [.int .i64 x7_1] from rfl) (Reps.none _ _)))
                               intro v205 w67 ho68 hb hg_ hnew_
                               clear hg_ hnew_
                               (rw [← Ny204.out] at ho68)
                               have n0_ := Aside0.mk (Kd.R_elder' (by (with_reducible repeat (apply Kd.R_drew)); exact HO184.out) (Kd.R_base ho68) hb)
                               have n1_ := Aside0.mk (Kd.N_elder' (by (with_reducible repeat (apply Kd.N_drew)); exact HO196.out) (Kd.R_base ho68) hb)
                               have n2_ := Aside0.mk (Kd.N_elder' (by (with_reducible repeat (apply Kd.N_drew)); exact HO199.out) (Kd.R_base ho68) hb)
                               have n3_ := Aside0.mk (Kd.R_elder' (by (with_reducible repeat (apply Kd.R_drew)); exact HO203.out) (Kd.R_base ho68) hb)
                               have n4_ := Aside0.mk (Kd.R_lower (Kd.R_new' (Kd.R_new' (Kd.R_newM (M := fun k_ => (w.heap.size ≤ k_)) ho68 (below_size (by repeat ((with_reducible exact HB.out)))) (fun k_ h_ => h_)) (Kd.R_lt (by (with_reducible repeat (apply Kd.R_drew)); exact HO184.out))) (Kd.R_lt (by (with_reducible repeat (apply Kd.R_drew)); exact HO203.out))) (below_size (by repeat ((with_reducible exact HB.out)))))
                               have n5_ := Aside0.mk (blk_below (g := gb179) (o := .cells #[.slice (some ad189) l0_0.length c0_0, .slice A0_1 l0_1.length c0_1] 36 (0, 0)) (by (with_reducible repeat (refine blk_drew ?_)); exact BK179.out) hb)
                               have n6_ := Aside0.mk (blk_below (g := gb180) (o := .cells #[.slice none 0 0, .slice none 0 0] 36 (0, 0)) (by (with_reducible repeat (refine blk_drew ?_)); exact BK180.out) hb)
                               have n7_ := Aside0.mk (blk_below (g := gb188) (o := .cells #[.slice Ao46 t182.length co46, .slice Ao60 y197.length co60] 36 (0, 0)) (by (with_reducible repeat (refine blk_drew ?_)); exact BK188.out) hb)
                               have n8_ := Aside0.mk (below_step (by repeat ((with_reducible exact HB.out))) hb)
                               clear HO184
                               clear HO196
                               clear HO199
                               clear HO203
                               clear BK179
                               clear BK180
                               clear BK188
                               clear HB
                               have HO184 := n0_
                               have HO196 := n1_
                               have HO199 := n2_
                               have HO203 := n3_
                               have HO206 := n4_
                               have BK179 := n5_
                               have BK180 := n6_
                               have BK188 := n7_
                               have HB := n8_
                               clear n0_ n1_ n2_ n3_ n4_ n5_ n6_ n7_ n8_
                               clear hb ho68
                               refine hK.out _ _ ⟨(blk_cell BK179.out 0).trans rfl, (blk_cell BK179.out 1).trans rfl⟩ (fun hHeld => ?_)
                               clear hK K
                               refine norm_ (a' := ?_) ?_ ?_
                               rotate_left
                               · show Act.put _ (some 71) _ = _
                                 simp only [Act.put, List.setIfInBounds_toArray, List.set_cons_zero, List.set_cons_succ, i64_w, i32_w]
                                 rfl
                               exact norm_ (by simp only [putAll, Act.put, List.setIfInBounds_toArray, List.set_cons_zero, List.set_cons_succ]) (hCont (v202, v205) _ ⟨hHeld, (by (with_reducible repeat (apply Kd.R_drew)); exact Kd.R_mono HO184.out (fun _ hk => ⟨hk.1.1, ⟨hk.1.2, hk.2⟩⟩)), (by (with_reducible repeat (apply Kd.N_drew)); exact Kd.N_mono HO196.out (fun _ hk => ⟨hk.1.1.1, ⟨hk.1.1.2.1, ⟨hk.1.1.2.2.1, ⟨hk.1.2, ⟨hk.2, ⟨hk.1.1.2.2.2.1, ⟨hk.1.1.2.2.2.2.1, hk.1.1.2.2.2.2.2⟩⟩⟩⟩⟩⟩⟩)), (by (with_reducible repeat (apply Kd.N_drew)); exact Kd.N_mono HO199.out (fun _ hk => ⟨hk.1.1.1, ⟨hk.1.1.2.1, ⟨hk.1.2, ⟨hk.2, ⟨hk.1.1.2.2.1, ⟨hk.1.1.2.2.2.1, hk.1.1.2.2.2.2⟩⟩⟩⟩⟩⟩)), (by (with_reducible repeat (apply Kd.R_drew)); exact Kd.R_mono HO203.out (fun _ hk => ⟨hk.1.1.1, ⟨hk.1.2, hk.2⟩⟩)), (by (with_reducible repeat (apply Kd.R_drew)); exact Kd.R_mono HO206.out (fun _ hk => ⟨hk.1.1.1, ⟨hk.1.2, hk.2⟩⟩)), (by (with_reducible repeat (refine blk_drew ?_)); exact BK179.out), (by (with_reducible repeat (refine blk_drew ?_)); exact BK180.out), (by (with_reducible repeat (refine blk_drew ?_)); exact BK188.out), (by repeat ((with_reducible exact HB.out)))⟩)
                             · skip
                               refine Kd.R_lit_step (Kd.int .i64) _ 2 ?hg (N := 71) ?hd (xs := ([x7_1] : List Int)) (inner := [.int .i64 x7_1]) (ok := fun _ => True) (okp := fun _ => True) ?hr ?hp (fun _ hk => hk) trivial (Below.refl _ _) (Nat.le_refl _) (by simp) ?_; (case hd => rfl); (case hg => rfl); (case hr => (go_simp; done)); (case hp => exact (Reps.one (show Kd.M (Kd.int .i64) _ _ _ x7_1 [.int .i64 x7_1] from rfl) (Reps.none _ _)))
                               intro v205 w66 ho67 hb hg_ hnew_
                               clear hg_ hnew_
                               (rw [← Ny204.out] at ho67)
                               have n0_ := Aside0.mk (Kd.R_elder' (by (with_reducible repeat (apply Kd.R_drew)); exact HO184.out) (Kd.R_base ho67) hb)
                               have n1_ := Aside0.mk (Kd.N_elder' (by (with_reducible repeat (apply Kd.N_drew)); exact HO196.out) (Kd.R_base ho67) hb)
                               have n2_ := Aside0.mk (Kd.N_elder' (by (with_reducible repeat (apply Kd.N_drew)); exact HO199.out) (Kd.R_base ho67) hb)
                               have n3_ := Aside0.mk (Kd.R_lower (Kd.R_new' (Kd.R_newM (M := fun k_ => (w.heap.size ≤ k_)) ho67 (below_size (by repeat ((with_reducible exact HB.out)))) (fun k_ h_ => h_)) (Kd.R_lt (by (with_reducible repeat (apply Kd.R_drew)); exact HO184.out))) (below_size (by repeat ((with_reducible exact HB.out)))))
                               have n4_ := Aside0.mk (blk_below (g := gb179) (o := .cells #[.slice (some ad189) l0_0.length c0_0, .slice A0_1 l0_1.length c0_1] 36 (0, 0)) (by (with_reducible repeat (refine blk_drew ?_)); exact BK179.out) hb)
                               have n5_ := Aside0.mk (blk_below (g := gb180) (o := .cells #[.slice none 0 0, .slice none 0 0] 36 (0, 0)) (by (with_reducible repeat (refine blk_drew ?_)); exact BK180.out) hb)
                               have n6_ := Aside0.mk (blk_below (g := gb188) (o := .cells #[.slice Ao46 t182.length co46, .slice Ao60 y197.length co60] 36 (0, 0)) (by (with_reducible repeat (refine blk_drew ?_)); exact BK188.out) hb)
                               have n7_ := Aside0.mk (below_step (by repeat ((with_reducible exact HB.out))) hb)
                               clear HO184
                               clear HO196
                               clear HO199
                               clear BK179
                               clear BK180
                               clear BK188
                               clear HB
                               have HO184 := n0_
                               have HO196 := n1_
                               have HO199 := n2_
                               have HO206 := n3_
                               have BK179 := n4_
                               have BK180 := n5_
                               have BK188 := n6_
                               have HB := n7_
                               clear n0_ n1_ n2_ n3_ n4_ n5_ n6_ n7_
                               clear hb ho67
                               refine hK.out _ _ ⟨(blk_cell BK179.out 0).trans rfl, (blk_cell BK179.out 1).trans rfl⟩ (fun hHeld => ?_)
                               clear hK K
                               refine norm_ (a' := ?_) ?_ ?_
                               rotate_left
                               · show Act.put _ (some 71) _ = _
                                 simp only [Act.put, List.setIfInBounds_toArray, List.set_cons_zero, List.set_cons_succ, i64_w, i32_w]
                                 rfl
                               refine one_ (i := 4) (N := some 69) #[true, true, true, true, true, true, true, false, true, true, true, true, true, false, false, false] rfl rfl (one_of HT_.out (by kernel_rfl)) (by decide) (fun K hK => ?_)
                               refine goes_ Try.func39 (by kernel_rfl) rfl #[.slice (some ad189) (l0_0.take (a1 : Int).toNat).length c0_0] (by rfl) rfl rfl (by (try simp only [List.map_toArray, List.map_cons, List.map_nil]); (rw [show (l0_0.take (a1 : Int).toNat).length = a1.toNat from (by rw [List.length_take]; have h_ : (a1 : Int) ≤ (l0_0.length : Int) := of_decide_eq_true (by (with_reducible assumption)); omega)] <;> rfl)) ?_
                               with_reducible refine (spec_l01Own.calls _ _ (l0_0.take (a1 : Int).toNat) t201 _ ?side1 ?side2 A36.out).mono ?_
                               (case side1 => repeat (exact (Kd.C_below HR200.out HB.out)))
                               (case side2 => exact HC200.out)
                               rintro e w68 ⟨v202, rfl, ho0, hb⟩
                               refine ⟨_, rfl, ?_⟩
                               have n0_ := Aside0.mk (Kd.R_elder' (by (with_reducible repeat (apply Kd.R_drew)); exact HO184.out) (Kd.R_base ho0) hb)
                               have n1_ := Aside0.mk (Kd.N_elder' (by (with_reducible repeat (apply Kd.N_drew)); exact HO196.out) (Kd.R_base ho0) hb)
                               have n2_ := Aside0.mk (Kd.N_elder' (by (with_reducible repeat (apply Kd.N_drew)); exact HO199.out) (Kd.R_base ho0) hb)
                               have n3_ := Aside0.mk (Kd.R_elder' (by (with_reducible repeat (apply Kd.R_drew)); exact HO206.out) (Kd.R_base ho0) hb)
                               have n4_ := Aside0.mk (Kd.R_lower (Kd.R_new' (Kd.R_new' (Kd.R_newM (M := fun k_ => (w.heap.size ≤ k_)) ho0 (below_size (by repeat ((with_reducible exact HB.out)))) (fun k_ h_ => h_)) (Kd.R_lt (by (with_reducible repeat (apply Kd.R_drew)); exact HO184.out))) (Kd.R_lt (by (with_reducible repeat (apply Kd.R_drew)); exact HO206.out))) (below_size (by repeat ((with_reducible exact HB.out)))))
                               have n5_ := Aside0.mk (blk_below (g := gb179) (o := .cells #[.slice (some ad189) l0_0.length c0_0, .slice A0_1 l0_1.length c0_1] 36 (0, 0)) (by (with_reducible repeat (refine blk_drew ?_)); exact BK179.out) hb)
                               have n6_ := Aside0.mk (blk_below (g := gb180) (o := .cells #[.slice none 0 0, .slice none 0 0] 36 (0, 0)) (by (with_reducible repeat (refine blk_drew ?_)); exact BK180.out) hb)
                               have n7_ := Aside0.mk (blk_below (g := gb188) (o := .cells #[.slice Ao46 t182.length co46, .slice Ao60 y197.length co60] 36 (0, 0)) (by (with_reducible repeat (refine blk_drew ?_)); exact BK188.out) hb)
                               have n8_ := Aside0.mk (below_step (by repeat ((with_reducible exact HB.out))) hb)
                               clear HO184
                               clear HO196
                               clear HO199
                               clear HO206
                               clear BK179
                               clear BK180
                               clear BK188
                               clear HB
                               have HO184 := n0_
                               have HO196 := n1_
                               have HO199 := n2_
                               have HO206 := n3_
                               have HO203 := n4_
                               have BK179 := n5_
                               have BK180 := n6_
                               have BK188 := n7_
                               have HB := n8_
                               clear n0_ n1_ n2_ n3_ n4_ n5_ n6_ n7_ n8_
                               (try clear hb)
                               (try clear hb2)
                               (try clear hk)
                               (try clear hi)
                               (try clear ho0)
                               refine hK.out _ _ ⟨(blk_cell BK179.out 0).trans rfl, (blk_cell BK179.out 1).trans rfl⟩ (fun hHeld => ?_)
                               clear hK K
                               refine norm_ (a' := ?_) ?_ ?_
                               rotate_left
                               · show Act.put _ (some 69) _ = _
                                 simp only [Act.put, List.setIfInBounds_toArray, List.set_cons_zero, List.set_cons_succ, i64_w, i32_w]
                                 rfl
                               exact norm_ (by simp only [putAll, Act.put, List.setIfInBounds_toArray, List.set_cons_zero, List.set_cons_succ]) (hCont (v202, v205) _ ⟨hHeld, (by (with_reducible repeat (apply Kd.R_drew)); exact Kd.R_mono HO184.out (fun _ hk => ⟨hk.1.1, ⟨hk.2, hk.1.2⟩⟩)), (by (with_reducible repeat (apply Kd.N_drew)); exact Kd.N_mono HO196.out (fun _ hk => ⟨hk.1.1.1, ⟨hk.1.1.2.1, ⟨hk.1.1.2.2.1, ⟨hk.2, ⟨hk.1.2, ⟨hk.1.1.2.2.2.1, ⟨hk.1.1.2.2.2.2.1, hk.1.1.2.2.2.2.2⟩⟩⟩⟩⟩⟩⟩)), (by (with_reducible repeat (apply Kd.N_drew)); exact Kd.N_mono HO199.out (fun _ hk => ⟨hk.1.1.1, ⟨hk.1.1.2.1, ⟨hk.2, ⟨hk.1.2, ⟨hk.1.1.2.2.1, ⟨hk.1.1.2.2.2.1, hk.1.1.2.2.2.2⟩⟩⟩⟩⟩⟩)), (by (with_reducible repeat (apply Kd.R_drew)); exact Kd.R_mono HO203.out (fun _ hk => ⟨hk.1.1.1, ⟨hk.1.2, hk.2⟩⟩)), (by (with_reducible repeat (apply Kd.R_drew)); exact Kd.R_mono HO206.out (fun _ hk => ⟨hk.1.1.1, ⟨hk.1.2, hk.2⟩⟩)), (by (with_reducible repeat (refine blk_drew ?_)); exact BK179.out), (by (with_reducible repeat (refine blk_drew ?_)); exact BK180.out), (by (with_reducible repeat (refine blk_drew ?_)); exact BK188.out), (by repeat ((with_reducible exact HB.out)))⟩)
                           rintro ⟨v202, v205⟩ w69 ⟨hS_, h0_, h1_, h2_, h3_, h4_, h5_, h6_, h7_, h8_⟩
                           have n0_ : Aside0 (Kd.R (Kd.int .i64) 2 w69 w.heap.size (fun k_ => (w.heap.size ≤ k_) ∧ some k_ ≠ (v202 : Value).ownBlock ∧ some k_ ≠ (v205 : Value).ownBlock) (.slice Ao46 t182.length co46) t182) := ⟨h0_⟩
                           have n1_ : Aside0 (Kd.N (Kd.slice 2 (Kd.int .i64)) 22 w69 w.heap.size (fun k_ => (w.heap.size ≤ k_) ∧ some k_ ≠ (.slice Ao46 t182.length co46 : Value).ownBlock ∧ some k_ ≠ (.slice Ao60 y197.length co60 : Value).ownBlock ∧ some k_ ≠ (v202 : Value).ownBlock ∧ some k_ ≠ (v205 : Value).ownBlock ∧ k_ ≠ gb179 ∧ k_ ≠ gb180 ∧ k_ ≠ gb188) (.slice Ao59 y194.length co59) y194) := ⟨h1_⟩
                           have n2_ : Aside0 (Kd.N (Kd.slice 2 (Kd.int .i64)) 22 w69 w.heap.size (fun k_ => (w.heap.size ≤ k_) ∧ some k_ ≠ (.slice Ao46 t182.length co46 : Value).ownBlock ∧ some k_ ≠ (v202 : Value).ownBlock ∧ some k_ ≠ (v205 : Value).ownBlock ∧ k_ ≠ gb179 ∧ k_ ≠ gb180 ∧ k_ ≠ gb188) (.slice Ao60 y197.length co60) y197) := ⟨h2_⟩
                           have n3_ : Aside0 (Kd.R (Kd.int .i64) 2 w69 w.heap.size (fun k_ => (w.heap.size ≤ k_) ∧ some k_ ≠ (.slice Ao46 t182.length co46 : Value).ownBlock ∧ some k_ ≠ (v205 : Value).ownBlock) v202 t201) := ⟨h3_⟩
                           have n4_ : Aside0 (Kd.R (Kd.int .i64) 2 w69 w.heap.size (fun k_ => (w.heap.size ≤ k_) ∧ some k_ ≠ (.slice Ao46 t182.length co46 : Value).ownBlock ∧ some k_ ≠ (v202 : Value).ownBlock) v205 y204) := ⟨h4_⟩
                           have n5_ : Aside0 (w69.heap[gb179]? = some (.cells #[.slice (some ad189) l0_0.length c0_0, .slice A0_1 l0_1.length c0_1] 36 (0, 0))) := ⟨h5_⟩
                           have n6_ : Aside0 (w69.heap[gb180]? = some (.cells #[.slice none 0 0, .slice none 0 0] 36 (0, 0))) := ⟨h6_⟩
                           have n7_ : Aside0 (w69.heap[gb188]? = some (.cells #[.slice Ao46 t182.length co46, .slice Ao60 y197.length co60] 36 (0, 0))) := ⟨h7_⟩
                           have n8_ : Aside0 (Below w.heap.size w w69) := ⟨h8_⟩
                           clear HO184
                           clear HO196
                           clear HO199
                           clear BK179
                           clear BK180
                           clear BK188
                           clear HB
                           clear h0_ h1_ h2_ h3_ h4_ h5_ h6_ h7_ h8_
                           have HO184 := n0_
                           have HO196 := n1_
                           have HO199 := n2_
                           have HO203 := n3_
                           have HO206 := n4_
                           have BK179 := n5_
                           have BK180 := n6_
                           have BK188 := n7_
                           have HB := n8_
                           clear n0_ n1_ n2_ n3_ n4_ n5_ n6_ n7_ n8_
                           have hHeld : w69.cell? ⟨gb179, 0, none⟩ = some (.slice (some ad189) l0_0.length c0_0) ∧ w69.cell? ⟨gb179, 1, none⟩ = some (.slice A0_1 l0_1.length c0_1) := hS_
                           obtain ⟨Ao71, co71, eo71⟩ := Kd.R_slice HO206.out
                           (subst eo71)
                           refine norm_ (a' := ?_) ?_ ?_
                           rotate_left
                           · simp only [putAll, Act.put, List.setIfInBounds_toArray, List.set_cons_zero, List.set_cons_succ]
                             rfl
                           refine one_ (i := 7) (N := some 72) #[true, true, true, true, true, true, true, true, true, true, true, true, true, false, false, false] rfl rfl (one_of HT_.out (by kernel_rfl)) (by decide) (fun K hK => ?_)
                           refine Kd.R_append_rows_step (Kd.int .i64) (w0 := w) w.heap.size (by rfl) (.tmp 69) (.tmp 71) 22 2 (.int .i64 0) 8 rfl Try.underlying22 info2 rfl (by decide) (by omega) v202 t201 y204 _ _ _ (fun k_ => (w.heap.size ≤ k_) ∧ some k_ ≠ (.slice Ao46 t182.length co46 : Value).ownBlock ∧ some k_ ≠ (.slice Ao71 y204.length co71 : Value).ownBlock) (fun _ => False) rfl rfl ?aO ?aR (fun _ _ h => h) (fun _ h => h.elim) ?aF ?aB ?aS ?aL ?_
                           (case aR => repeat (exact (Kd.R_reads' HO206.out).2.2))
                           (case aB => exact (by repeat ((with_reducible exact HB.out))))
                           (case aF => exact (fun k_ hk => ⟨(Nat.le_trans (below_size (by repeat ((with_reducible exact HB.out)))) hk), Kd.fresh' (Kd.R_lt (by (with_reducible repeat (apply Kd.R_drew)); exact HO184.out)) k_ hk, Kd.fresh' (Kd.R_lt (by (with_reducible repeat (apply Kd.R_drew)); exact HO206.out)) k_ hk⟩))
                           (case aO => exact (by (with_reducible repeat (apply Kd.R_drew)); exact HO203.out))
                           (case aS => exact (below_size (by repeat ((with_reducible exact HB.out)))))
                           (case aL => have := LMc37.out; omega)
                           intro v208 w70 ho hb hg hat
                           rw [← Ny207.out] at ho
                           have n0_ := Aside0.mk (blk_grown (g := gb179) (o := .cells #[.slice (some ad189) l0_0.length c0_0, .slice A0_1 l0_1.length c0_1] 36 (0, 0)) (by (with_reducible repeat (refine blk_drew ?_)); exact BK179.out) hg (Kd.R_ne HO203.out BK179.out (by decide)))
                           have n1_ := Aside0.mk (blk_grown (g := gb180) (o := .cells #[.slice none 0 0, .slice none 0 0] 36 (0, 0)) (by (with_reducible repeat (refine blk_drew ?_)); exact BK180.out) hg (Kd.R_ne HO203.out BK180.out (by decide)))
                           have n2_ := Aside0.mk (Kd.R_after (ok := (fun k_ => (w.heap.size ≤ k_) ∧ some k_ ≠ (.slice Ao71 y204.length co71 : Value).ownBlock)) (by (with_reducible repeat (apply Kd.R_drew)); exact Kd.R_mono HO184.out (fun _ hk => ⟨⟨hk.1, hk.2.2⟩, hk.2.1⟩)) hg hat)
                           have n3_ := Aside0.mk (blk_grown (g := gb188) (o := .cells #[.slice Ao46 t182.length co46, .slice Ao60 y197.length co60] 36 (0, 0)) (by (with_reducible repeat (refine blk_drew ?_)); exact BK188.out) hg (Kd.R_ne HO203.out BK188.out (by decide)))
                           have n4_ := Aside0.mk (Kd.N_afterv (ok := (fun k_ => (w.heap.size ≤ k_) ∧ some k_ ≠ (.slice Ao46 t182.length co46 : Value).ownBlock ∧ some k_ ≠ (.slice Ao60 y197.length co60 : Value).ownBlock ∧ some k_ ≠ (.slice Ao71 y204.length co71 : Value).ownBlock ∧ k_ ≠ gb179 ∧ k_ ≠ gb180 ∧ k_ ≠ gb188)) (by (with_reducible repeat (apply Kd.N_drew)); exact Kd.N_mono HO196.out (fun _ hk => ⟨⟨hk.1, ⟨hk.2.1, ⟨hk.2.2.1, ⟨hk.2.2.2.2.1, ⟨hk.2.2.2.2.2.1, ⟨hk.2.2.2.2.2.2.1, hk.2.2.2.2.2.2.2⟩⟩⟩⟩⟩⟩, hk.2.2.2.1⟩)) hg hat)
                           have n5_ := Aside0.mk (Kd.N_afterv (ok := (fun k_ => (w.heap.size ≤ k_) ∧ some k_ ≠ (.slice Ao46 t182.length co46 : Value).ownBlock ∧ some k_ ≠ (.slice Ao71 y204.length co71 : Value).ownBlock ∧ k_ ≠ gb179 ∧ k_ ≠ gb180 ∧ k_ ≠ gb188)) (by (with_reducible repeat (apply Kd.N_drew)); exact Kd.N_mono HO199.out (fun _ hk => ⟨⟨hk.1, ⟨hk.2.1, ⟨hk.2.2.2.1, ⟨hk.2.2.2.2.1, ⟨hk.2.2.2.2.2.1, hk.2.2.2.2.2.2⟩⟩⟩⟩⟩, hk.2.2.1⟩)) hg hat)
                           have n6_ := Aside0.mk (Kd.R_after (ok := (fun k_ => (w.heap.size ≤ k_) ∧ some k_ ≠ (.slice Ao46 t182.length co46 : Value).ownBlock)) (by (with_reducible repeat (apply Kd.R_drew)); exact Kd.R_mono HO206.out (fun _ hk => ⟨⟨hk.1, hk.2.1⟩, hk.2.2⟩)) hg hat)
                           have n7_ := Aside0.mk (hb)
                           have n8_ := Aside0.mk (ho)
                           clear BK179
                           clear BK180
                           clear HO184
                           clear BK188
                           clear HO196
                           clear HO199
                           clear HO206
                           clear HB
                           clear HO203
                           have BK179 := n0_
                           have BK180 := n1_
                           have HO184 := n2_
                           have BK188 := n3_
                           have HO196 := n4_
                           have HO199 := n5_
                           have HO206 := n6_
                           have HB := n7_
                           have HO209 := n8_
                           clear n0_ n1_ n2_ n3_ n4_ n5_ n6_ n7_ n8_
                           clear ho hb hg hat
                           refine hK.out _ _ ⟨(blk_cell BK179.out 0).trans rfl, (blk_cell BK179.out 1).trans rfl⟩ (fun hHeld => ?_)
                           clear hK K
                           refine norm_ (a' := ?_) ?_ ?_
                           rotate_left
                           · show Act.put _ (some 72) _ = _
                             simp only [Act.put, List.setIfInBounds_toArray, List.set_cons_zero, List.set_cons_succ, i64_w, i32_w]
                             rfl
                           refine one_ (i := 13) (N := some 78) #[true, true, true, true, true, true, true, true, true, true, true, true, true, true, false, false] rfl rfl (one_of HT_.out (by kernel_rfl)) (by decide) (fun K hK => ?_)
                           refine Kd.R_append_rows_step (Kd.int .i64) (w0 := w) w.heap.size (by rfl) (.tmp 72) (.tmp 77) 22 2 (.int .i64 0) 8 rfl Try.underlying22 info2 rfl (by decide) (by omega) v208 y207 (l0_0.drop ((ji38) : Int).toNat) _ _ _ (fun k_ => (w.heap.size ≤ k_) ∧ some k_ ≠ (.slice Ao46 t182.length co46 : Value).ownBlock ∧ some k_ ≠ (.slice Ao71 y204.length co71 : Value).ownBlock) (fun _ => False) rfl rfl ?aO ?aR (fun _ _ h => h) (fun _ h => h.elim) ?aF ?aB ?aS ?aL ?_
                           (case aR => (rw [← show (l0_0.drop ((ji38) : Int).toNat).length = (l0_0.length - (ji38).toNat) from List.length_drop]; repeat (exact (Kd.C_below HR210.out HB.out))))
                           (case aB => exact (by repeat ((with_reducible exact HB.out))))
                           (case aF => exact (fun k_ hk => ⟨(Nat.le_trans (below_size (by repeat ((with_reducible exact HB.out)))) hk), Kd.fresh' (Kd.R_lt (by (with_reducible repeat (apply Kd.R_drew)); exact HO184.out)) k_ hk, Kd.fresh' (Kd.R_lt (by (with_reducible repeat (apply Kd.R_drew)); exact HO206.out)) k_ hk⟩))
                           (case aO => exact (by (with_reducible repeat (apply Kd.R_drew)); exact HO209.out))
                           (case aS => exact (below_size (by repeat ((with_reducible exact HB.out)))))
                           (case aL => have := LMc41.out; have hlx_ := (show (l0_0.drop ((ji38) : Int).toNat).length = (l0_0.length - (ji38).toNat) from List.length_drop); omega)
                           intro v212 w72 ho hb hg hat
                           rw [← Ny211.out] at ho
                           have n0_ := Aside0.mk (blk_grown (g := gb179) (o := .cells #[.slice (some ad189) l0_0.length c0_0, .slice A0_1 l0_1.length c0_1] 36 (0, 0)) (by (with_reducible repeat (refine blk_drew ?_)); exact BK179.out) hg (Kd.R_ne HO209.out BK179.out (by decide)))
                           have n1_ := Aside0.mk (blk_grown (g := gb180) (o := .cells #[.slice none 0 0, .slice none 0 0] 36 (0, 0)) (by (with_reducible repeat (refine blk_drew ?_)); exact BK180.out) hg (Kd.R_ne HO209.out BK180.out (by decide)))
                           have n2_ := Aside0.mk (Kd.R_after (ok := (fun k_ => (w.heap.size ≤ k_) ∧ some k_ ≠ (.slice Ao71 y204.length co71 : Value).ownBlock)) (by (with_reducible repeat (apply Kd.R_drew)); exact HO184.out) hg hat)
                           have n3_ := Aside0.mk (blk_grown (g := gb188) (o := .cells #[.slice Ao46 t182.length co46, .slice Ao60 y197.length co60] 36 (0, 0)) (by (with_reducible repeat (refine blk_drew ?_)); exact BK188.out) hg (Kd.R_ne HO209.out BK188.out (by decide)))
                           have n4_ := Aside0.mk (Kd.N_afterv (ok := (fun k_ => (w.heap.size ≤ k_) ∧ some k_ ≠ (.slice Ao46 t182.length co46 : Value).ownBlock ∧ some k_ ≠ (.slice Ao60 y197.length co60 : Value).ownBlock ∧ some k_ ≠ (.slice Ao71 y204.length co71 : Value).ownBlock ∧ k_ ≠ gb179 ∧ k_ ≠ gb180 ∧ k_ ≠ gb188)) (by (with_reducible repeat (apply Kd.N_drew)); exact HO196.out) hg hat)
                           have n5_ := Aside0.mk (Kd.N_afterv (ok := (fun k_ => (w.heap.size ≤ k_) ∧ some k_ ≠ (.slice Ao46 t182.length co46 : Value).ownBlock ∧ some k_ ≠ (.slice Ao71 y204.length co71 : Value).ownBlock ∧ k_ ≠ gb179 ∧ k_ ≠ gb180 ∧ k_ ≠ gb188)) (by (with_reducible repeat (apply Kd.N_drew)); exact HO199.out) hg hat)
                           have n6_ := Aside0.mk (Kd.R_after (ok := (fun k_ => (w.heap.size ≤ k_) ∧ some k_ ≠ (.slice Ao46 t182.length co46 : Value).ownBlock)) (by (with_reducible repeat (apply Kd.R_drew)); exact HO206.out) hg hat)
                           have n7_ := Aside0.mk (hb)
                           have n8_ := Aside0.mk (ho)
                           clear BK179
                           clear BK180
                           clear HO184
                           clear BK188
                           clear HO196
                           clear HO199
                           clear HO206
                           clear HB
                           clear HO209
                           have BK179 := n0_
                           have BK180 := n1_
                           have HO184 := n2_
                           have BK188 := n3_
                           have HO196 := n4_
                           have HO199 := n5_
                           have HO206 := n6_
                           have HB := n7_
                           have HO213 := n8_
                           clear n0_ n1_ n2_ n3_ n4_ n5_ n6_ n7_ n8_
                           clear ho hb hg hat
                           obtain ⟨Ao73, co73, eo73⟩ := Kd.R_slice HO213.out
                           (subst eo73)
                           refine hK.out _ _ ⟨(blk_cell BK179.out 0).trans rfl, (blk_cell BK179.out 1).trans rfl⟩ (fun hHeld => ?_)
                           clear hK K
                           refine norm_ (a' := ?_) ?_ ?_
                           rotate_left
                           · show Act.put _ (some 78) _ = _
                             simp only [Act.put, List.setIfInBounds_toArray, List.set_cons_zero, List.set_cons_succ, i64_w, i32_w]
                             rfl
                           refine pure_ (i := 14) (N := some 79) (v := ?_) (a' := ?_) #[true, true, true, true, true, true, true, true, true, true, true, true, true, true, true, false] rfl rfl (any_of HT_.out (by kernel_rfl)) (fun _ _ _ h => h) (Or.inl ⟨by rfl, ?_⟩) ?_ ?_
                           rotate_left
                           · intro w'
                             go_simp
                             with_reducible rfl
                           rotate_left
                           · simp only [Act.put, List.setIfInBounds_toArray, List.set_cons_zero, List.set_cons_succ, i64_w, i32_w]
                             rfl
                           refine one_ (i := 15) (N := none) #[true, true, true, true, true, true, true, true, true, true, true, true, true, true, true, true] rfl rfl (one_of HT_.out (by kernel_rfl)) (by decide) (fun K hK => ?_)
                           have hs74 : w72.cell? ⟨gb188, 0, none⟩ = some (.slice Ao46 t182.length co46) := (blk_cell BK188.out 0).trans rfl
                           have hfs74 := blk_frozen BK188.out 0
                           have hns74_0 := NB179_188.out
                           have hns74_1 := NB180_188.out
                           have hms74_0 := NB188_179.out
                           have hms74_1 := NB188_180.out
                           refine skip_ (w1 := ?_) (by rfl) rfl ?_ ?_
                           rotate_left
                           · go_simp
                             rfl
                           refine hK.out _ _ ⟨((cell_far (p := ⟨gb188, _, none⟩) NB179_188.out _).trans (hHeld.1)), ((cell_far (p := ⟨gb188, _, none⟩) NB179_188.out _).trans (hHeld.2))⟩ (fun hHeld => ?_)
                           clear hK K
                           refine done_ (done_of HT_.out (by kernel_rfl)) ?_
                           have hcz75_0 : w72.cell? ⟨gb188, 0, none⟩ = some (.slice Ao46 t182.length co46) := (blk_cell BK188.out 0).trans rfl
                           have hcz75_1 : w72.cell? ⟨gb188, 1, none⟩ = some (.slice Ao60 y197.length co60) := (blk_cell BK188.out 1).trans rfl
                           have hfz75_0 := blk_frozen BK188.out 0
                           have hfz75_1 := blk_frozen BK188.out 1
                           have hcz76_0 : w72.cell? ⟨gb180, 0, none⟩ = some (.slice none 0 0) := (blk_cell BK180.out 0).trans rfl
                           have hcz76_1 : w72.cell? ⟨gb180, 1, none⟩ = some (.slice none 0 0) := (blk_cell BK180.out 1).trans rfl
                           have hfz76_0 := blk_frozen BK180.out 0
                           have hfz76_1 := blk_frozen BK180.out 1
                           try go_wp2
                           refine bodyPost_ret (results_ct rfl _ _ gb180 36 #[.slice Ao73 y211.length co73, .slice Ao60 y197.length co60] (0, 0) _ rfl (by (with_reducible repeat (refine blk_drew ?_)); refine blk_put (cs := #[.slice Ao73 y211.length co73, .slice none 0 0]) ?_ 1 _ rfl; (with_reducible repeat (refine blk_drew ?_)); refine blk_put (cs := #[.slice none 0 0, .slice none 0 0]) ?_ 0 _ rfl; (with_reducible repeat (refine blk_drew ?_)); refine blk_far ?_ NB180_188.out _; (with_reducible repeat (refine blk_drew ?_)); exact BK180.out) Try.underlying36 rfl (by kernel_rfl)) rfl ?_
                           exact ⟨_, _, by rfl, by (with_reducible repeat (apply Kd.R_drew)); exact Kd.R_mono (Kd.R_far (p := ⟨gb180, 1, none⟩) (Kd.R_far (p := ⟨gb180, 0, none⟩) (Kd.R_far (p := ⟨gb188, 0, none⟩) (Kd.R_types (Kd.R_types HO213.out BK188.out (by decide)) BK180.out (by decide)) (fun _ hk => hk.1.2) (.slice Ao73 y211.length co73)) (fun _ hk => hk.2) (.slice Ao73 y211.length co73)) (fun _ hk => hk.2) (.slice Ao60 y197.length co60)) (fun _ hk => hk.1.1.1), by (with_reducible repeat (apply Kd.N_drew)); exact Kd.N_mono (Kd.N_far (p := ⟨gb180, 1, none⟩) (Kd.N_far (p := ⟨gb180, 0, none⟩) (Kd.N_far (p := ⟨gb188, 0, none⟩) (Kd.N_mono (Kd.N_mono HO199.out (fun k_ hk => (⟨hk, hk.1.2.2.2.2.2⟩ : _ ∧ k_ ≠ gb188))) (fun k_ hk => (⟨hk, hk.1.1.2.2.2.2.1⟩ : _ ∧ k_ ≠ gb180))) (fun _ hk => hk.1.2) (.slice Ao73 y211.length co73)) (fun _ hk => hk.2) (.slice Ao73 y211.length co73)) (fun _ hk => hk.2) (.slice Ao60 y197.length co60)) (fun _ hk => ⟨hk.1.1.1.1, hk.1.1.2⟩), by repeat ((with_reducible first | exact HB.out | refine below_set ?_ GE180.out | refine below_set ?_ GE188.out))⟩
                         · rw [if_neg c41] at H
                           exact absurd H (by simp)
                       · rw [if_neg c40] at H
                         exact absurd H (by simp)
                     · rw [if_neg c39] at H
                       exact absurd H (by simp)
                   · rw [if_neg c37] at H
                     exact absurd H (by simp)
                 · rw [if_neg c35] at H
                   exact absurd H (by simp)
               · rw [if_neg c33] at H
                 exact absurd H (by simp)
             · rw [if_neg c32] at H
               exact absurd H (by simp)
           · rw [if_neg c31] at H
             exact absurd H (by simp)
         · rw [if_neg c29] at H
           exact absurd H (by simp)
       · rw [if_neg c28] at H
         exact absurd H (by simp)
 · rw [if_neg c4] at H
   have c4b0 : (t181 == 0) = false := beq_eq_false_iff_ne.mpr c4
   have c4b1 : (t181 != 0) = true := bne_iff_ne.mpr c4
   simp only [Option.some.injEq, Prod.mk.injEq] at H
   obtain ⟨rfl, rfl, rfl⟩ := H
   go_enter Try.func13, Try.ntmps13
   go_wp2_with (first | ((with_reducible refine gate_dst (N := 2) rfl ?_); refine box_event ?hg (N := 2) ?hd (cs := #[.slice A0_0 l0_0.length c0_0, .slice A0_1 l0_1.length c0_1]) (t := 36) ?hr ?_; (case hd => rfl); (case hg => rfl); (case hr => (go_simp; done)); intro gb179 hg w77 hbox hb; have n0_ := Aside0.mk (below_step (by repeat ((with_reducible exact HB.out))) hb); have n1_ := Aside0.mk (hbox); have n2_ := Aside0.mk ((by rw [hg]; exact (below_size (by repeat ((with_reducible exact HB.out)))) : w.heap.size ≤ gb179)); have n3_ := Aside0.mk ((by rw [hg]; exact (below_size (by repeat ((with_reducible exact HB.out)))) : w.heap.size ≤ gb179)); clear HB; have HB := n0_; have BK179 := n1_; have GW179 := n2_; have GE179 := n3_; clear n0_ n1_ n2_ n3_; clear hb hbox hg) | ((with_reducible refine gate_dst (N := 4) rfl ?_); refine box_event ?hg (N := 4) ?hd (cs := #[.slice none 0 0, .slice none 0 0]) (t := 36) ?hr ?_; (case hd => rfl); (case hg => rfl); (case hr => (go_simp; done)); intro gb180 hg w78 hbox hb; have n0_ := Aside0.mk (blk_below (g := gb179) (o := .cells #[.slice A0_0 l0_0.length c0_0, .slice A0_1 l0_1.length c0_1] 36 (0, 0)) (by (with_reducible repeat (refine blk_drew ?_)); exact BK179.out) hb); have n1_ := Aside0.mk (below_step (by repeat ((with_reducible exact HB.out))) hb); have n2_ := Aside0.mk (hbox); have n3_ := Aside0.mk ((by rw [hg]; exact (below_size (by repeat ((with_reducible exact HB.out)))) : w.heap.size ≤ gb180)); have n4_ := Aside0.mk ((by rw [hg]; exact (below_size (by repeat ((with_reducible exact HB.out)))) : w.heap.size ≤ gb180)); have n5_ := Aside0.mk ((by rw [hg]; exact Nat.ne_of_lt (blk_lt (g := gb179) (o := .cells #[.slice A0_0 l0_0.length c0_0, .slice A0_1 l0_1.length c0_1] 36 (0, 0)) (by (with_reducible repeat (refine blk_drew ?_)); exact BK179.out)) : gb179 ≠ gb180)); have n6_ := Aside0.mk ((by rw [hg]; exact Nat.ne_of_gt (blk_lt (g := gb179) (o := .cells #[.slice A0_0 l0_0.length c0_0, .slice A0_1 l0_1.length c0_1] 36 (0, 0)) (by (with_reducible repeat (refine blk_drew ?_)); exact BK179.out)) : gb180 ≠ gb179)); clear BK179; clear HB; have BK179 := n0_; have HB := n1_; have BK180 := n2_; have GW180 := n3_; have GE180 := n4_; have NB179_180 := n5_; have NB180_179 := n6_; clear n0_ n1_ n2_ n3_ n4_ n5_ n6_; clear hb hbox hg; have hnb79 := NB179_180.out; have hnc79 := NB180_179.out; have hcz80_0 : w78.cell? ⟨gb179, 0, none⟩ = some (.slice A0_0 l0_0.length c0_0) := (blk_cell BK179.out 0).trans rfl; have hcz80_1 : w78.cell? ⟨gb179, 1, none⟩ = some (.slice A0_1 l0_1.length c0_1) := (blk_cell BK179.out 1).trans rfl; have hfz80_0 := blk_frozen BK179.out 0; have hfz80_1 := blk_frozen BK179.out 1) | ((with_reducible refine gate_callee (f := 36) rfl ?_); refine goesL_ (some 13) rfl rfl Try.func36 (by kernel_rfl) rfl #[.agg #[.slice A0_0 l0_0.length c0_0, .slice A0_1 l0_1.length c0_1], .int .i64 a1] rfl (by (try simp only [List.map_toArray, List.map_cons, List.map_nil]); rfl) ?_; (with_reducible refine (spec_l06Code.calls k _ _ l0_0 _ _ l0_1 a1 t181 _ ?side1 ?side2 ?side3 ?side4 A3.out).mono ?_); (case side1 => repeat (exact (Kd.C_below HR0_0.out HB.out))); (case side2 => exact HC0_0.out); (case side3 => repeat (exact (Kd.C_below HR0_1.out HB.out))); (case side4 => exact HC0_1.out); rintro e w81 ⟨rfl, hb⟩; refine ⟨_, rfl, ?_⟩; have n0_ := Aside0.mk (blk_below (g := gb179) (o := .cells #[.slice A0_0 l0_0.length c0_0, .slice A0_1 l0_1.length c0_1] 36 (0, 0)) (by (with_reducible repeat (refine blk_drew ?_)); exact BK179.out) hb); have n1_ := Aside0.mk (blk_below (g := gb180) (o := .cells #[.slice none 0 0, .slice none 0 0] 36 (0, 0)) (by (with_reducible repeat (refine blk_drew ?_)); exact BK180.out) hb); have n2_ := Aside0.mk (below_step (by repeat ((with_reducible exact HB.out))) hb); clear BK179; clear BK180; clear HB; have BK179 := n0_; have BK180 := n1_; have HB := n2_; clear n0_ n1_ n2_; (try clear hb); (try clear hb2); (try clear hk); (try clear hi); have hcz82_0 : w81.cell? ⟨gb180, 0, none⟩ = some (.slice none 0 0) := (blk_cell BK180.out 0).trans rfl; have hcz82_1 : w81.cell? ⟨gb180, 1, none⟩ = some (.slice none 0 0) := (blk_cell BK180.out 1).trans rfl; have hfz82_0 := blk_frozen BK180.out 0; have hfz82_1 := blk_frozen BK180.out 1))
   refine bodyPost_ret (results_ct rfl _ _ gb180 36 #[.slice none 0 0, .slice none 0 0] (0, 0) _ rfl (by (with_reducible repeat (refine blk_drew ?_)); refine blk_put (cs := #[.slice none 0 0, .slice none 0 0]) ?_ 1 _ rfl; (with_reducible repeat (refine blk_drew ?_)); refine blk_put (cs := #[.slice none 0 0, .slice none 0 0]) ?_ 0 _ rfl; (with_reducible repeat (refine blk_drew ?_)); exact BK180.out) Try.underlying36 rfl (by kernel_rfl)) rfl ?_
   exact ⟨_, _, by rfl, by exact Kd.R_nil _ _ _ _ _, by exact Kd.N_nil _ _ _ _ _, by repeat ((with_reducible first | exact HB.out | refine below_set ?_ GE180.out))⟩
end Go.Proofs.Ytibahnmljafkdaa.P
