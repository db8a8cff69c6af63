/- Part of the claim: what the printed walks and words need (no condition). -/
import Derived.Test.YtibahnmljafkdaaCaPx0
import Derived.Test.YtibahnmljafkdaaCaPx7
namespace Go.Proofs.Ytibahnmljafkdaa.P
open Go.RowKit Go.Proofs.YtibahnmljafkdaaW.PrintWords Go.Proofs.YtibahnmljafkdaaW.PrintLast Go.Proofs.YtibahnmljafkdaaW.PrintMore
attribute [local go_sem] max2_int min2_int max_two min_two max_three min_three max_four min_four   -- for this text's walks alone
set_option linter.unusedVariables false
set_option linter.unusedSimpArgs false
def slices_Compare_int64_int64.l0 : Nat → List Int → List Int → List Int → Int → Int → Option (Int)
 | 0, _, _, _, _, _ => none
 | k + 1, x0, x1, x9, x10, x11 => if x11 < x10 then (if 0 ≤ x11 then (if x11 < (x9.length : Int) then (if x11 ≥ (x1.length : Int) then (some 1) else (if x11 < (x1.length : Int) then ((cmp_Compare_int64.f (rd x9 x11) (rd x1 x11)).bind fun t291 => (if t291 = 0 then (slices_Compare_int64_int64.l0 k x0 x1 x9 x10 (wrap64 (x11 + 1))) else (some t291))) else (none))) else (none)) else (none)) else (if (x0.length : Int) < (x1.length : Int) then (some (-1)) else (some 0))
def slices_Compare_int64_int64.f (k : Nat) (l0 : List Int) (l1 : List Int) : Option (Int) := slices_Compare_int64_int64.l0 k l0 l1 l0 (l0.length : Int) 0
set_option maxHeartbeats 8000000 in
set_option maxRecDepth 100000 in
theorem slices_Compare_int64_int64.calls (k : Nat) (A0 : Option Addr) (c0 : Nat) (l0 : List Int) (A1 : Option Addr) (c1 : Nat) (l1 : List Int) (r : Int) (w : World) (hr0 : Kd.C (Kd.int .i64) w A0 l0.length l0) (hc0 : l0.length ≤ c0) (hr1 : Kd.C (Kd.int .i64) w A1 l1.length l1) (hc1 : l1.length ≤ c1) (h : slices_Compare_int64_int64.f k l0 l1 = some r) :
 Calls Try.prog 91 #[.slice A0 l0.length c0, .slice A1 l1.length c1] w fun e w' => e = .returned (.int .i64 r) ∧ Drawn0 w w' := by
 have HR0 := Aside0.mk hr0
 have HC0 := Aside0.mk hc0
 clear hr0 hc0
 have HR1 := Aside0.mk hr1
 have HC1 := Aside0.mk hc1
 clear hr1 hc1
 have H : (slices_Compare_int64_int64.l0 k l0 l1 l0 (l0.length : Int) 0) = some r := h
 clear h
 have H' := Aside0.mk H
 clear H
 go_enter Try.func91, Try.ntmps91
 go_wp2
 go_loopg [11] k (fun kq v11 w' => ∃ (x11_1 : Int), v11 = .int .i64 x11_1 ∧ Aside0 (slices_Compare_int64_int64.l0 kq l0 l1 l0 (l0.length : Int) x11_1 = some r) ∧ Aside0 (kq ≤ k) ∧ Drawn0 w w')
 case atStart => exact ⟨(0), (by rfl), H', ⟨Nat.le_refl _⟩, by repeat (exact Drawn0.refl _)⟩
 case round =>
  clear H'
  try clear c1
  try clear p2
  obtain ⟨x11_1, rfl, HA, HK1, ⟨m1, rfl⟩⟩ := hrel
  cases gk with
  | zero => exact absurd HA.out (by simp [slices_Compare_int64_int64.l0])
  | succ k1 =>
   have H := HA.out
   clear HA
   simp only [slices_Compare_int64_int64.l0] at H
   by_cases c3 : x11_1 < (l0.length : Int)
   · rw [if_pos c3] at H
     have c3b0 : decide (x11_1 < (l0.length : Int)) = true := decide_eq_true c3
     clear c3
     by_cases c4 : 0 ≤ x11_1
     · rw [if_pos c4] at H
       have c4b0 : decide (0 ≤ x11_1) = true := decide_eq_true c4
       clear c4
       by_cases c5 : x11_1 < (l0.length : Int)
       · rw [if_pos c5] at H
         have c5b0 : decide (x11_1 < (l0.length : Int)) = true := decide_eq_true c5
         clear c5
         by_cases c6 : x11_1 ≥ (l1.length : Int)
         · rw [if_pos c6] at H
           have c6b0 : decide ((l1.length : Int) ≤ x11_1) = true := decide_eq_true c6
           clear c6
           obtain rfl := Option.some.inj H
           have p289 : 0 ≤ (x11_1 : Int) := of_decide_eq_true (by (with_reducible assumption))
           have q289 : x11_1 < (l0.length : Int) := of_decide_eq_true (by (with_reducible assumption))
           obtain ⟨ad289, e289, hx289_0⟩ := Kd.at_int HR0.out x11_1 p289 q289
           cases e289
           replace p289 := eq_true p289
           replace q289 := eq_true q289
           go_wp2
           go_ret
           exact ⟨by rfl, by repeat (first | exact Drawn0.refl _ | apply Drawn0.step)⟩
         · rw [if_neg c6] at H
           have c6b0 : decide ((l1.length : Int) ≤ x11_1) = false := decide_eq_false c6
           clear c6
           by_cases c7 : x11_1 < (l1.length : Int)
           · rw [if_pos c7] at H
             have c7b0 : decide (x11_1 < (l1.length : Int)) = true := decide_eq_true c7
             clear c7
             replace H := Option.bind_eq_some_iff.mp H
             obtain ⟨t291, A80, H⟩ := H
             replace H : (if t291 = 0 then (slices_Compare_int64_int64.l0 k1 l0 l1 l0 (l0.length : Int) (wrap64 (x11_1 + 1))) else (some t291)) = some r := H
             have A8 := Aside0.mk A80
             clear A80
             by_cases c9 : t291 = 0
             · rw [if_pos c9] at H
               have c9b0 : (t291 == 0) = true := beq_iff_eq.mpr c9
               have c9b1 : (t291 != 0) = false := bne_eq_false_iff_eq.mpr c9
               clear c9
               have H' := Aside0.mk H
               clear H
               have p289 : 0 ≤ (x11_1 : Int) := of_decide_eq_true (by (with_reducible assumption))
               have q289 : x11_1 < (l0.length : Int) := of_decide_eq_true (by (with_reducible assumption))
               obtain ⟨ad289, e289, hx289_0⟩ := Kd.at_int HR0.out x11_1 p289 q289
               cases e289
               replace p289 := eq_true p289
               replace q289 := eq_true q289
               have p290 : 0 ≤ (x11_1 : Int) := of_decide_eq_true (by (with_reducible assumption))
               have q290 : x11_1 < (l1.length : Int) := of_decide_eq_true (by (with_reducible assumption))
               obtain ⟨ad290, e290, hx290_0⟩ := Kd.at_int HR1.out x11_1 p290 q290
               cases e290
               replace p290 := eq_true p290
               replace q290 := eq_true q290
               go_wp2_with (((with_reducible refine gate_callee (f := 100) rfl ?_); refine goesL_ (some 26) rfl rfl Try.func100 (by kernel_rfl) rfl #[.int .i64 (rd l0 x11_1), .int .i64 (rd l1 x11_1)] rfl (by (try simp only [List.map_toArray, List.map_cons, List.map_nil]); rfl) ?_; (with_reducible refine (cmp_Compare_int64.calls (rd l0 x11_1) (rd l1 x11_1) t291 _ A8.out).mono ?_); rintro e w' ⟨rfl, ⟨nd, rfl⟩⟩; refine ⟨_, rfl, ?_⟩))
               go_roundg k1
               case measure => have := HK1.out; omega
               case rel => exact ⟨(wrap64 (x11_1 + 1)), (by rfl), H', ⟨by have := HK1.out; omega⟩, by repeat (first | exact Drawn0.refl _ | apply Drawn0.step)⟩
             · rw [if_neg c9] at H
               have c9b0 : (t291 == 0) = false := beq_eq_false_iff_ne.mpr c9
               have c9b1 : (t291 != 0) = true := bne_iff_ne.mpr c9
               obtain rfl := Option.some.inj H
               have p289 : 0 ≤ (x11_1 : Int) := of_decide_eq_true (by (with_reducible assumption))
               have q289 : x11_1 < (l0.length : Int) := of_decide_eq_true (by (with_reducible assumption))
               obtain ⟨ad289, e289, hx289_0⟩ := Kd.at_int HR0.out x11_1 p289 q289
               cases e289
               replace p289 := eq_true p289
               replace q289 := eq_true q289
               have p290 : 0 ≤ (x11_1 : Int) := of_decide_eq_true (by (with_reducible assumption))
               have q290 : x11_1 < (l1.length : Int) := of_decide_eq_true (by (with_reducible assumption))
               obtain ⟨ad290, e290, hx290_0⟩ := Kd.at_int HR1.out x11_1 p290 q290
               cases e290
               replace p290 := eq_true p290
               replace q290 := eq_true q290
               go_wp2_with (((with_reducible refine gate_callee (f := 100) rfl ?_); refine goesL_ (some 26) rfl rfl Try.func100 (by kernel_rfl) rfl #[.int .i64 (rd l0 x11_1), .int .i64 (rd l1 x11_1)] rfl (by (try simp only [List.map_toArray, List.map_cons, List.map_nil]); rfl) ?_; (with_reducible refine (cmp_Compare_int64.calls (rd l0 x11_1) (rd l1 x11_1) t291 _ A8.out).mono ?_); rintro e w' ⟨rfl, ⟨nd, rfl⟩⟩; refine ⟨_, rfl, ?_⟩))
               go_ret
               exact ⟨by rfl, by repeat (first | exact Drawn0.refl _ | apply Drawn0.step)⟩
           · rw [if_neg c7] at H
             exact absurd H (by simp)
       · rw [if_neg c5] at H
         exact absurd H (by simp)
     · rw [if_neg c4] at H
       exact absurd H (by simp)
   · rw [if_neg c3] at H
     have c3b0 : decide (x11_1 < (l0.length : Int)) = false := decide_eq_false c3
     clear c3
     by_cases c10 : (l0.length : Int) < (l1.length : Int)
     · rw [if_pos c10] at H
       have c10b0 : decide ((l0.length : Int) < (l1.length : Int)) = true := decide_eq_true c10
       have c10b1 : decide (l0.length < l1.length) = true := decide_eq_true (Int.ofNat_lt.mp c10)
       clear c10
       obtain rfl := Option.some.inj H
       go_wp2
       go_ret
       exact ⟨by rfl, by repeat (first | exact Drawn0.refl _ | apply Drawn0.step)⟩
     · rw [if_neg c10] at H
       have c10b0 : decide ((l0.length : Int) < (l1.length : Int)) = false := decide_eq_false c10
       have c10b1 : decide (l0.length < l1.length) = false := decide_eq_false (fun h => c10 (Int.ofNat_lt.mpr h))
       clear c10
       obtain rfl := Option.some.inj H
       go_wp2
       go_ret
       exact ⟨by rfl, by repeat (first | exact Drawn0.refl _ | apply Drawn0.step)⟩
def impl_wordOrder.f (k : Nat) (l0 : List Int) (l1 : List Int) : Option (Int) := (cmp_Compare_int.f (l0.length : Int) (l1.length : Int)).bind fun t292 => ((slices_Compare_int64_int64.f k l0 l1).bind fun t293 => ((cmp_Or_int.f k (([t292, t293] : List Int))).bind fun t297 => (some t297)))
set_option maxHeartbeats 8000000 in
set_option maxRecDepth 100000 in
theorem impl_wordOrder.calls (k : Nat) (A0 : Option Addr) (c0 : Nat) (l0 : List Int) (A1 : Option Addr) (c1 : Nat) (l1 : List Int) (r : Int) (w : World) (hr0 : Kd.C (Kd.int .i64) w A0 l0.length l0) (hc0 : l0.length ≤ c0) (hr1 : Kd.C (Kd.int .i64) w A1 l1.length l1) (hc1 : l1.length ≤ c1) (h : impl_wordOrder.f k l0 l1 = some r) :
 Calls Try.prog 70 #[.slice A0 l0.length c0, .slice A1 l1.length c1] w fun e w' => e = .returned (.int .i64 r) ∧ Below w.heap.size w w' := by
 have HR0 := Aside0.mk hr0
 have HC0 := Aside0.mk hc0
 clear hr0 hc0
 have HR1 := Aside0.mk hr1
 have HC1 := Aside0.mk hc1
 clear hr1 hc1
 have HB := Aside0.mk (Below.refl w.heap.size w)
 have H : ((cmp_Compare_int.f (l0.length : Int) (l1.length : Int)).bind fun t292 => ((slices_Compare_int64_int64.f k l0 l1).bind fun t293 => ((cmp_Or_int.f k (([t292, t293] : List Int))).bind fun t297 => (some t297)))) = some r := h
 clear h
 replace H := Option.bind_eq_some_iff.mp H
 obtain ⟨t292, A30, H⟩ := H
 replace H : ((slices_Compare_int64_int64.f k l0 l1).bind fun t293 => ((cmp_Or_int.f k (([t292, t293] : List Int))).bind fun t297 => (some t297))) = some r := H
 have A3 := Aside0.mk A30
 clear A30
 replace H := Option.bind_eq_some_iff.mp H
 obtain ⟨t293, A40, H⟩ := H
 replace H : ((cmp_Or_int.f k (([t292, t293] : List Int))).bind fun t297 => (some t297)) = some r := H
 have A4 := Aside0.mk A40
 clear A40
 obtain ⟨y294, hy294⟩ : ∃ y_ : List Int, y_ = (([t292, t293] : List Int)) := ⟨_, rfl⟩
 replace H : ((cmp_Or_int.f k y294).bind fun t297 => (some t297)) = some r := by (rw [hy294]; with_reducible exact H)
 have Ny294 := Aside0.mk hy294
 clear hy294
 replace H := Option.bind_eq_some_iff.mp H
 obtain ⟨t297, A50, H⟩ := H
 replace H : (some t297) = some r := H
 have A5 := Aside0.mk A50
 clear A50
 obtain rfl := Option.some.inj H
 go_enter Try.func70, Try.ntmps70
 go_wp2_with (first | ((with_reducible refine gate_callee (f := 90) rfl ?_); refine goesL_ (some 9) rfl rfl Try.func90 (by kernel_rfl) rfl #[.int .i64 (l0.length : Int), .int .i64 (l1.length : Int)] rfl (by (try simp only [List.map_toArray, List.map_cons, List.map_nil]); rfl) ?_; (with_reducible refine (cmp_Compare_int.calls (l0.length : Int) (l1.length : Int) t292 _ A3.out).mono ?_); rintro e w' ⟨rfl, ⟨nd, rfl⟩⟩; refine ⟨_, rfl, ?_⟩) | ((with_reducible refine gate_callee (f := 91) rfl ?_); refine goesL_ (some 12) rfl rfl Try.func91 (by kernel_rfl) rfl #[.slice A0 l0.length c0, .slice A1 l1.length c1] rfl (by (try simp only [List.map_toArray, List.map_cons, List.map_nil]); rfl) ?_; (with_reducible refine (slices_Compare_int64_int64.calls k _ _ l0 _ _ l1 t293 _ ?side1 ?side2 ?side3 ?side4 A4.out).mono ?_); (case side1 => repeat (exact HR0.out)); (case side2 => exact HC0.out); (case side3 => repeat (exact HR1.out)); (case side4 => exact HC1.out); rintro e w' ⟨rfl, ⟨nd, rfl⟩⟩; refine ⟨_, rfl, ?_⟩) | ((with_reducible refine gate_dst (N := 13) rfl ?_); refine Kd.R_lit (Kd.int .i64) _ 3 ?hg (N := 13) ?hd (xs := ([t292, t293] : List Int)) (inner := [.int .i64 t292, .int .i64 t293]) (ok := fun _ => True) (okp := fun _ => True) ?hr ?hp (fun _ hk => hk) trivial (Below.refl _ _) (Nat.le_refl _) (by simp) ?_; (case hd => rfl); (case hg => rfl); (case hr => (go_simp; done)); (case hp => exact (Reps.one (show Kd.M (Kd.int .i64) _ _ _ t292 [.int .i64 t292] from rfl) (Reps.one (show Kd.M (Kd.int .i64) _ _ _ t293 [.int .i64 t293] from rfl) (Reps.none _ _)))); intro v295 w6 ho7 hb hg_ hnew_; clear hg_ hnew_; (rw [← Ny294.out] at ho7); have n0_ := Aside0.mk (Kd.R_lower ho7 (below_size (by repeat ((with_reducible first | exact HB.out | apply pw_below_drewN))))); have n1_ := Aside0.mk (below_step (by repeat ((with_reducible first | exact HB.out | apply pw_below_drewN))) hb); clear HB; have HO296 := n0_; have HB := n1_; clear n0_ n1_; clear hb ho7; obtain ⟨Ao8, co8, eo8⟩ := Kd.R_slice HO296.out; subst eo8) | ((with_reducible refine gate_callee (f := 89) rfl ?_); refine goesL_ (some 14) rfl rfl Try.func89 (by kernel_rfl) rfl #[.slice Ao8 y294.length co8] rfl (by (try simp only [List.map_toArray, List.map_cons, List.map_nil]); rfl) ?_; (with_reducible refine (cmp_Or_int.calls k _ _ y294 t297 _ ?side1 ?side2 A5.out).mono ?_); (case side1 => repeat (exact (Kd.R_reads' HO296.out).2.2)); (case side2 => exact (Kd.R_reads' HO296.out).2.1); rintro e w' ⟨rfl, ⟨nd, rfl⟩⟩; refine ⟨_, rfl, ?_⟩))
 go_ret
 exact ⟨by rfl, by repeat ((with_reducible first | exact HB.out | apply pw_below_drewN))⟩
end Go.Proofs.Ytibahnmljafkdaa.P
