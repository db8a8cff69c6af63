/- The law of 'ForkLegs': the walk of its function. -/
import Derived.Test.YtibahnmljafkdaaCdForkLegs
import Derived.Test.YtibahnmljafkdaaCdMarkWeb
import Derived.Test.YtibahnmljafkdaaCdPx1
import Derived.Test.YtibahnmljafkdaaCdPx7
import Derived.Test.YtibahnmljafkdaaCdPx6
import Derived.Test.YtibahnmljafkdaaCdPx5
namespace Go.Proofs.Ytibahnmljafkdaa.P
open Go.RowKit Go.Maps Go.Proofs.YtibahnmljafkdaaW.PrintWords Go.Proofs.YtibahnmljafkdaaW.PrintLast Go.Proofs.YtibahnmljafkdaaW.PrintMore
set_option linter.unusedVariables false
set_option linter.unusedSimpArgs false
theorem fork_any (A0 : Option Addr) (c0 : Nat) (legs : List Int) (A1 : Option Addr) (c1 : Nat) (forks : List (List Int)) (x : Int) (w : World)
 (hr0 : Kd.C (Kd.int .i64) w A0 legs.length legs) (hc0 : legs.length ≤ c0) (hr1 : Kd.C (Kd.slice 2 (Kd.int .i64)) w A1 forks.length forks) (hc1 : forks.length ≤ c1) (hl0 : legs.length ≤ 1000000000000) (hl1 : forks.length ≤ 1000000000000) :
 Calls Try.prog 15 #[.agg #[.slice A0 legs.length c0, .slice A1 forks.length c1], .int .i64 x] w fun e w' => ∃ v0 v1, e = .returned (.tuple #[.agg #[v0, v1], .int .i64 (forkR legs forks x).2.2]) ∧
  Kd.R (Kd.int .i64) 2 w' w.heap.size (fun _ => True) v0 (forkR legs forks x).1 ∧ Kd.S (Kd.slice 2 (Kd.int .i64)) 22 w' w.heap.size (fun k_ => some k_ ≠ v0.ownBlock) v1 (forkR legs forks x).2.1 ∧ Below w.heap.size w w' := by
 by_cases hg : isWebB legs forks = true ∧ 0 ≤ x ∧ x ≤ (legs.length : Int) - 2
 · obtain ⟨j, rfl⟩ : ∃ j : Nat, x = j := ⟨x.toNat, by omega⟩
   have e1 : forkR legs forks (j : Int) = (forkedLegs legs (mexL (allE legs forks)) j, forkedForks legs forks (mexL (allE legs forks)) j, 0) := by
    simp only [forkR, hg.1, if_true, if_pos hg.2, Int.toNat_natCast]
   rw [e1]
   exact forkLegs_good A0 c0 legs A1 c1 forks j w hr0 hc0 hr1 hc1 hg.1 (by omega)
 · have e1 : (forkR legs forks x).2.2 ≠ 0 ∧ (forkR legs forks x).1 = [] ∧ (forkR legs forks x).2.1 = [] := by
    unfold forkR
    by_cases hi : isWebB legs forks = true
    · have hx : ¬ (0 ≤ x ∧ x ≤ (legs.length : Int) - 2) := fun h => hg ⟨hi, h⟩
      simp [hi, hx]
    · simp [hi]
   refine (forkLegs_bad A0 c0 legs A1 c1 forks x w hr0 hc0 hr1 hc1 hl0 hl1 e1.1).mono ?_
   rintro e w' ⟨rfl, hb⟩
   rw [e1.2.1, e1.2.2]
   exact ⟨_, _, rfl, Kd.R_nil _ _ _ _ _, Kd.S_nil _ _ _ _ _, hb⟩
theorem blk_al {w : World} {g : Nat} {o o' : Obj} (h : w.heap[g]? = some o) : (w.alloc o').heap[g]? = some o := blk_below h (below_alloc (Below.refl _ _) o')
theorem size_al (w : World) (o : Obj) : (w.alloc o).heap.size = w.heap.size + 1 := by simp
theorem R_lim {α : Type} {d : Kd α} {e base : Nat} {ok : Nat → Prop} {w : World} {v : Value} {xs : List α} (hd : ∀ {ok1 ok2 : Nat → Prop} {x : α} {cs : List Value}, d.M w base ok1 x cs → d.M w base ok2 x cs) (h : d.R e w base ok v xs) : d.R e w base (fun k => some k = v.ownBlock ∧ base ≤ k ∧ k < w.heap.size) v xs :=
 Kd.R_flat hd h (fun k hk _ => ⟨hk.symm, Kd.R_base h k hk, Kd.R_lt h k hk⟩)
theorem S_lim {α : Type} {d : Kd α} {e base : Nat} {ok : Nat → Prop} {w : World} {v : Value} {xs : List α} (h : Kd.S d e w base ok v xs) : Kd.S d e w base (fun k => ok k ∧ base ≤ k ∧ k < w.heap.size) v xs :=
 Kd.S_mono (Kd.S_bound h) (fun k hk => ⟨hk.1, hk.2.1, hk.2.2.1⟩)
theorem R_C {α : Type} {d : Kd α} {e base n c : Nat} {ok : Nat → Prop} {w : World} {A : Option Addr} {xs : List α} (h : d.R e w base ok (.slice A n c) xs) : n = xs.length ∧ n ≤ c ∧ d.C w A xs.length xs := Kd.R_reads' h
theorem lenLL_le {m : Nat} : ∀ {l : List (List Int)}, (∀ f ∈ l, f.length ≤ m) → lenLL l ≤ l.length * m
 | [], _ => by simp [lenLL]
 | f :: r, h => by
  have h1 := h f List.mem_cons_self
  have h2 := lenLL_le (l := r) (fun g hg => h g (List.mem_cons_of_mem _ hg))
  simp only [lenLL, List.length_cons, Nat.succ_mul]; omega
theorem forkR_len (legs : List Int) (forks : List (List Int)) (x : Int) (h0 : legs.length ≤ 1048576) (h1 : forks.length ≤ 1048576) (h2 : ∀ f ∈ forks, f.length ≤ 1048576) : (forkR legs forks x).1.length ≤ 1000000000000 ∧ (forkR legs forks x).2.1.length ≤ 1000000000 ∧ (∀ f ∈ (forkR legs forks x).2.1, f.length ≤ 1000000000000) ∧ lenLL (forkR legs forks x).2.1 ≤ 1000000000000 := by
 unfold forkR
 by_cases hi : isWebB legs forks = true
 · rw [if_pos hi]
   by_cases hx : 0 ≤ x ∧ x ≤ (legs.length : Int) - 2
   · rw [if_pos hx]
     have hw := isWebB_facts hi
     have h3 : ∀ f ∈ forkedForks legs forks (mexL (allE legs forks)) x.toNat, f.length ≤ 3 := fun f hf => by
      unfold forkedForks at hf
      rcases List.mem_append.1 hf with h | h
      · exact Nat.le_of_eq (hw.2.1 f h)
      · obtain rfl := List.mem_singleton.1 h; simp
     have h4 : (forkedForks legs forks (mexL (allE legs forks)) x.toNat).length = forks.length + 1 := by simp [forkedForks]
     have h5 := lenLL_le h3
     refine ⟨?_, by show (forkedForks legs forks (mexL (allE legs forks)) x.toNat).length ≤ _; omega, fun f hf => by have := h3 f hf; omega, by show lenLL (forkedForks legs forks (mexL (allE legs forks)) x.toNat) ≤ _; omega⟩
     show (forkedLegs legs (mexL (allE legs forks)) x.toNat).length ≤ _
     simp [forkedLegs]; omega
   · rw [if_neg hx]; simp [lenLL]
 · rw [if_neg hi]; simp [lenLL]
set_option maxRecDepth 100000 in
set_option maxHeartbeats 4000000 in
theorem forkLaw_any (A0 : Option Addr) (c0 : Nat) (legs : List Int) (A1 : Option Addr) (c1 : Nat) (forks : List (List Int)) (x : Int) (w : World)
 (hr0 : Kd.C (Kd.int .i64) w A0 legs.length legs) (hc0 : legs.length ≤ c0) (hr1 : Kd.C (Kd.slice 2 (Kd.int .i64)) w A1 forks.length forks) (hc1 : forks.length ≤ c1)
 (hg : legs.length ≤ 9223372036854775807) (hfs : forks.length ≤ 9223372036854775807) (hf : ∀ f ∈ forks, f.length ≤ 9223372036854775807) :
 Calls Try.prog 4 #[.agg #[.slice A0 legs.length c0, .slice A1 forks.length c1], .int .i64 x] w fun e w' => e = .returned (.bool true) ∧ Below w.heap.size w w' := by
 have hu36 := Try.underlying36
 have hu28 := Try.underlying28
 obtain ⟨s, hs, hsb⟩ := szWeb legs forks 1048576 (by omega) (by omega) hg hfs hf
 obtain ⟨ks, hks⟩ := hs.rounds
 have HSZ := Aside0.mk (fun W (hb : Below w.heap.size w W) => laws_szWeb.calls ks A0 c0 legs A1 c1 forks 1048576 s W (Kd.C_below hr0 hb) hc0 (Kd.C_below hr1 hb) hc1 hks)
 have hbx := below_alloc (Below.refl w.heap.size w) (.cells #[.slice A0 legs.length c0, .slice A1 forks.length c1] 28)
 have hx0 := (MapKept.heap_alloc w (.cells #[.slice A0 legs.length c0, .slice A1 forks.length c1] 28)).1
 have HBX := Aside0.mk hbx
 have HX0 := Aside0.mk hx0
 have HAS := Aside0.mk (show w.heap.size < (w.alloc (.cells #[.slice A0 legs.length c0, .slice A1 forks.length c1] 28)).heap.size from by simp)
 clear hbx hx0 hks hs
 by_cases hneg : s < 0
 · have hnb : decide (s < 0) = true := decide_eq_true hneg
   clear hsb hneg hr0 hr1
   go_enter Try.func4, Try.ntmps4
   go_wp2_with (first
    | (go_at_call 12; go_must (refine (HSZ.out _ HBX.out).mono ?_); rintro e w1 ⟨rfl, hb1⟩; have HB1 := Aside0.mk (below_step HBX.out hb1); clear hb1)
    | go_in)
   go_ret
   exact ⟨by rfl, HB1.out⟩
 have hnb : decide (s < 0) = false := decide_eq_false hneg
 obtain ⟨hsb0, hsb1, bl0, bl1, bl2⟩ := hsb.resolve_left hneg
 clear hsb hneg hsb0 hsb1
 have bl2' : ∀ f ∈ forks, f.length ≤ 1048576 := fun f h => by have := bl2 f h; omega
 obtain ⟨kt, hkt⟩ := (ev_toWeb legs forks (by omega) (by omega) (fun f h => by have := bl2' f h; omega)).rounds
 obtain ⟨kf, hkf⟩ := (ev_fork legs forks x (by omega) (by omega)).rounds
 have hlen := forkR_len legs forks x (by omega) (by omega) bl2'
 obtain ⟨ke, hke⟩ := (ev_eqWeb legs forks (by omega) (by omega) (fun f h => by have := bl2' f h; omega)).rounds
 obtain ⟨kg, hkg⟩ := (ev_eqWeb (forkR legs forks x).1 (forkR legs forks x).2.1 hlen.1 (by omega) hlen.2.2.1).rounds
 obtain ⟨kh, hkh⟩ := (ev_heldWeb (forkR legs forks x).1.length (forkR legs forks x).2.1 1 (by omega) (by omega) (by omega)).rounds
 have hl0 : legs.length ≤ 1048576 := by omega
 have hl1 : forks.length ≤ 1048576 := by omega
 have hll : lenLL forks ≤ 500000000000000 := by
  have h1 := lenLL_le bl2'
  have h2 := Nat.mul_le_mul_right 1048576 hl1
  omega
 have HTO := Aside0.mk (fun W (hb : Below w.heap.size w W) => laws_toWeb.calls kt A0 c0 legs A1 c1 forks legs forks W (Kd.C_below hr0 hb) hc0 (Kd.C_below hr1 hb) hc1 hkt)
 have HIM := Aside0.mk (fun A c A' c' W (h0 : Kd.C (Kd.int .i64) W A legs.length legs) (h1 : legs.length ≤ c) (h2 : Kd.C (Kd.slice 2 (Kd.int .i64)) W A' forks.length forks) (h3 : forks.length ≤ c') => fork_any A c legs A' c' forks x W h0 h1 h2 h3 (by omega) (by omega))
 generalize forkR legs forks x = FR at *
 obtain ⟨fl, ff, fc⟩ := FR
 simp only at *
 have HSP := Aside0.mk (fun A c A' c' W (h0 : Kd.C (Kd.int .i64) W A legs.length legs) (h1 : legs.length ≤ c) (h2 : Kd.C (Kd.slice 2 (Kd.int .i64)) W A' forks.length forks) (h3 : forks.length ≤ c') => spec_ForkLegs.calls kf A c legs A' c' forks x fl ff fc W h0 h1 h2 h3 hkf)
 clear hkt hkf bl0 bl1 bl2 hr0 hr1 hf
 go_enter Try.func4, Try.ntmps4
 go_wp2_with fail
 go_must (refine (HSZ.out _ HBX.out).mono ?_)
 rintro e w1 ⟨rfl, hb1⟩
 have HB1 := Aside0.mk (below_step HBX.out hb1)
 have hX1 := (hb1.block w.heap.size HAS.out).trans HX0.out
 have hz0 : w1.cell? ⟨w.heap.size, 0, none⟩ = some (.slice A0 legs.length c0) := (blk_cell hX1 0).trans rfl
 have hz1 : w1.cell? ⟨w.heap.size, 1, none⟩ = some (.slice A1 forks.length c1) := (blk_cell hX1 1).trans rfl
 have HX1 := Aside0.mk hX1
 clear hb1 hX1
 go_wp2_with fail
 go_must (refine (HTO.out _ HB1.out).mono ?_)
 rintro e w2 ⟨v0, v1, rfl, ho0, ho1, hb2⟩
 obtain ⟨Ta, ca, rfl, ho0⟩ := R_open ho0 (n := legs.length) rfl
 obtain ⟨Tb, cb, rfl⟩ := Kd.R_slice (Kd.S_R ho1)
 have HO20 := Aside0.mk (R_C ho0)
 have HO21 := Aside0.mk (R_C (Kd.S_R ho1))
 have HB2 := Aside0.mk (below_step HB1.out hb2)
 have hX2 := (hb2.block w.heap.size (Array.getElem?_eq_some_iff.1 HX1.out).1).trans HX1.out
 have HX2 := Aside0.mk hX2
 clear ho0 ho1 hb2 hX2 hz0 hz1
 go_wp2_with fail
 go_must (refine (HSP.out _ _ _ _ _ HO20.out.2.2 HO20.out.2.1 HO21.out.2.2 HO21.out.2.1).mono ?_)
 rintro e w3 ⟨v0, v1, rfl, ho0, ho1, hb3⟩
 obtain ⟨Ua, ua, rfl, ho0⟩ := R_open ho0 (n := fl.length) rfl
 obtain ⟨Ub, ub, rfl⟩ := Kd.N_slice ho1
 have HF0 := Aside0.mk (Kd.F_mono (Kd.F_bound (Kd.R_F ho0)) (fun k hk => (⟨hk.1, hk.2⟩ : w2.heap.size ≤ k ∧ k < w3.heap.size)))
 have HF1 := Aside0.mk (Kd.F_mono (Kd.F_bound (Kd.N_F ho1)) (fun k hk => (⟨hk.1.1, hk.2⟩ : w2.heap.size ≤ k ∧ k < w3.heap.size)))
 have HL0 := Aside0.mk (Kd.R_reads' ho0)
 have HL1 := Aside0.mk (Kd.N_reads' ho1)
 have HB3 := Aside0.mk (below_step HB2.out hb3)
 have HOR0 := Aside0.mk (And.intro (Array.getElem?_eq_some_iff.1 HX2.out).1 hb3.size)
 have hX3 := (hb3.block w.heap.size (Array.getElem?_eq_some_iff.1 HX2.out).1).trans HX2.out
 have HX3 := Aside0.mk hX3
 clear ho0 ho1 hb3
 have hb := below_alloc (Below.refl w3.heap.size w3) (.cells #[.slice Ua fl.length ua, .slice Ub ff.length ub] 36)
 have HG6 := Aside0.mk (MapKept.heap_alloc w3 (.cells #[.slice Ua fl.length ua, .slice Ub ff.length ub] 36)).1
 have HX := Aside0.mk (blk_al (o' := .cells #[.slice Ua fl.length ua, .slice Ub ff.length ub] 36) hX3)
 have HB := Aside0.mk (below_step HB3.out hb)
 have HU0 := Aside0.mk (Kd.F_below HF0.out hb)
 have HU1 := Aside0.mk (Kd.F_below HF1.out hb)
 have hsz3 := size_al w3 (.cells #[.slice Ua fl.length ua, .slice Ub ff.length ub] 36)
 have HSZ3 := Aside0.mk hsz3
 have hz0 := (blk_cell HX.out 0).trans (rfl : _ = some (Value.slice A0 legs.length c0))
 have hz1 := (blk_cell HX.out 1).trans (rfl : _ = some (Value.slice A1 forks.length c1))
 clear hX3 hb HF0 HF1 HX1 HX2 HB1 HB2 hsz3
 go_wp2_with fail
 generalize w3.alloc (.cells #[.slice Ua fl.length ua, .slice Ub ff.length ub] 36) = W3 at *
 generalize w3.heap.size = b6 at *
 have HBa := HB
 go_must (refine (HTO.out _ HB.out).mono ?_)
 rintro e w4 ⟨v0, v1, rfl, ho0, ho1, hb4⟩
 have ho0 := R_lim (fun h => h) ho0
 have ho1 := S_lim ho1
 obtain ⟨Xa, xa, rfl, ho0⟩ := R_open ho0 (n := legs.length) rfl
 obtain ⟨Xb, xb, rfl⟩ := Kd.R_slice (Kd.S_R ho1)
 have hb := below_step hb4 (below_alloc (Below.refl w4.heap.size w4) (.cells #[.slice Xa legs.length xa, .slice Xb forks.length xb] 36))
 have hb5 := below_alloc (Below.refl w4.heap.size w4) (.cells #[.slice Xa legs.length xa, .slice Xb forks.length xb] 36)
 have HX0 := Aside0.mk (Kd.R_below ho0 hb5)
 have HX1 := Aside0.mk (Kd.S_below ho1 hb5)
 have HBW3 := Aside0.mk hb
 have HS34 := Aside0.mk hb4.size
 have HG8 := Aside0.mk (MapKept.heap_alloc w4 (.cells #[.slice Xa legs.length xa, .slice Xb forks.length xb] 36)).1
 replace HG6 := Aside0.mk (blk_below HG6.out hb)
 replace HX := Aside0.mk (blk_below HX.out hb)
 replace HB := Aside0.mk (below_step HB.out hb)
 replace HU0 := Aside0.mk (Kd.F_below HU0.out hb)
 replace HU1 := Aside0.mk (Kd.F_below HU1.out hb)
 have HSZ4 := Aside0.mk (size_al w4 (.cells #[.slice Xa legs.length xa, .slice Xb forks.length xb] 36))
 have hz8 := (blk_cell HG8.out 0).trans (rfl : _ = some (Value.slice Xa legs.length xa))
 have hz9 := (blk_cell HG8.out 1).trans (rfl : _ = some (Value.slice Xb forks.length xb))
 clear hz0 hz1 ho0 ho1 hb hb4 hb5 HX3 HB3 HO20 HO21
 go_wp2_with fail
 generalize w4.alloc (.cells #[.slice Xa legs.length xa, .slice Xb forks.length xb] 36) = W4 at *
 generalize w4.heap.size = b8 at *
 go_must (refine (HIM.out _ _ _ _ _ (R_C HX0.out).2.2 (R_C HX0.out).2.1 (R_C (Kd.S_R HX1.out)).2.2 (R_C (Kd.S_R HX1.out)).2.1).mono ?_)
 rintro e w5 ⟨v0, v1, rfl, ho0, ho1, hb4⟩
 have ho0 := R_lim (fun h => h) ho0
 have ho1 := S_lim ho1
 obtain ⟨Ga, ga, rfl, ho0⟩ := R_open ho0 (n := fl.length) rfl
 obtain ⟨Gb, gb, rfl⟩ := Kd.R_slice (Kd.S_R ho1)
 have hb := below_step hb4 (below_alloc (Below.refl w5.heap.size w5) (.cells #[.slice Ga fl.length ga, .slice Gb ff.length gb] 36))
 have hb5 := below_alloc (Below.refl w5.heap.size w5) (.cells #[.slice Ga fl.length ga, .slice Gb ff.length gb] 36)
 have HG0 := Aside0.mk (Kd.R_below ho0 hb5)
 have HG1 := Aside0.mk (Kd.S_below ho1 hb5)
 have HBW4 := Aside0.mk hb
 have HS45 := Aside0.mk hb4.size
 have HG9 := Aside0.mk (MapKept.heap_alloc w5 (.cells #[.slice Ga fl.length ga, .slice Gb ff.length gb] 36)).1
 replace HBW3 := Aside0.mk (below_step HBW3.out hb)
 replace HX0 := Aside0.mk (Kd.R_below HX0.out hb)
 replace HX1 := Aside0.mk (Kd.S_below HX1.out hb)
 replace HG8 := Aside0.mk (blk_below HG8.out hb)
 replace HG6 := Aside0.mk (blk_below HG6.out hb)
 replace HX := Aside0.mk (blk_below HX.out hb)
 replace HB := Aside0.mk (below_step HB.out hb)
 replace HU0 := Aside0.mk (Kd.F_below HU0.out hb)
 replace HU1 := Aside0.mk (Kd.F_below HU1.out hb)
 have HSZ5 := Aside0.mk (size_al w5 (.cells #[.slice Ga fl.length ga, .slice Gb ff.length gb] 36))
 have hz0 := (blk_cell HG9.out 0).trans (rfl : _ = some (Value.slice Ga fl.length ga))
 have hz1 := (blk_cell HG9.out 1).trans (rfl : _ = some (Value.slice Gb ff.length gb))
 have hz6 := (blk_cell HG6.out 0).trans (rfl : _ = some (Value.slice Ua fl.length ua))
 have hz7 := (blk_cell HG6.out 1).trans (rfl : _ = some (Value.slice Ub ff.length ub))
 clear hz8 hz9 ho0 ho1 hb hb4 hb5
 go_wp2_with fail
 generalize w5.alloc (.cells #[.slice Ga fl.length ga, .slice Gb ff.length gb] 36) = W5 at *
 generalize w5.heap.size = b9 at *
 obtain ⟨Q, hq, hmv, hget⟩ : ∃ Q : World → Prop, Q W5 ∧ (∀ W W', Below W.heap.size W W' → Q W → Q W') ∧ ∀ W, Q W →
  (Below w.heap.size w W ∧ Below W3.heap.size W3 W ∧ Below W4.heap.size W4 W ∧ W.heap[w.heap.size]? = some (.cells #[.slice A0 legs.length c0, .slice A1 forks.length c1] 28 (0, 0)) ∧ W.heap[b6]? = some (.cells #[.slice Ua fl.length ua, .slice Ub ff.length ub] 36 (0, 0)) ∧
   W.heap[b8]? = some (.cells #[.slice Xa legs.length xa, .slice Xb forks.length xb] 36 (0, 0)) ∧ W.heap[b9]? = some (.cells #[.slice Ga fl.length ga, .slice Gb ff.length gb] 36 (0, 0))) ∧
  (Kd.F (Kd.int .i64) W (fun k => w2.heap.size ≤ k ∧ k < b6) Ua fl.length fl ∧ Kd.F (Kd.slice 2 (Kd.int .i64)) W (fun k => w2.heap.size ≤ k ∧ k < b6) Ub ff.length ff) ∧
  (Kd.R (Kd.int .i64) 2 W W3.heap.size (fun k => some k = (Value.slice Xa legs.length xa).ownBlock ∧ W3.heap.size ≤ k ∧ k < b8) (.slice Xa legs.length xa) legs ∧ Kd.S (Kd.slice 2 (Kd.int .i64)) 22 W W3.heap.size (fun k => some k ≠ (Value.slice Xa legs.length xa).ownBlock ∧ W3.heap.size ≤ k ∧ k < b8) (.slice Xb forks.length xb) forks) ∧
  (Kd.R (Kd.int .i64) 2 W W4.heap.size (fun k => some k = (Value.slice Ga fl.length ga).ownBlock ∧ W4.heap.size ≤ k ∧ k < b9) (.slice Ga fl.length ga) fl ∧ Kd.S (Kd.slice 2 (Kd.int .i64)) 22 W W4.heap.size (fun k => some k ≠ (Value.slice Ga fl.length ga).ownBlock ∧ W4.heap.size ≤ k ∧ k < b9) (.slice Gb ff.length gb) ff) :=
  ⟨_, ⟨⟨HB.out, HBW3.out, HBW4.out, HX.out, HG6.out, HG8.out, HG9.out⟩, ⟨HU0.out, HU1.out⟩, ⟨HX0.out, HX1.out⟩, HG0.out, HG1.out⟩,
   fun W W' hb h => ⟨⟨below_step h.1.1 hb, below_step h.1.2.1 hb, below_step h.1.2.2.1 hb, blk_below h.1.2.2.2.1 hb, blk_below h.1.2.2.2.2.1 hb, blk_below h.1.2.2.2.2.2.1 hb, blk_below h.1.2.2.2.2.2.2 hb⟩, ⟨Kd.F_below h.2.1.1 hb, Kd.F_below h.2.1.2 hb⟩, ⟨Kd.R_below h.2.2.1.1 hb, Kd.S_below h.2.2.1.2 hb⟩, Kd.R_below h.2.2.2.1 hb, Kd.S_below h.2.2.2.2 hb⟩, fun W h => h⟩
 have HQ5 := Aside0.mk hq
 have HMV := Aside0.mk hmv
 have HGET := Aside0.mk hget
 have HOR := Aside0.mk (show b6 < W3.heap.size ∧ W3.heap.size ≤ b8 ∧ b8 < W4.heap.size ∧ W4.heap.size ≤ b9 ∧ w.heap.size < w2.heap.size ∧ w2.heap.size ≤ b6 from by
  have := HSZ3.out; have := HS34.out; have := HSZ4.out; have := HS45.out; have := HOR0.out
  omega)
 clear hq hmv hget HU0 HU1 HX0 HX1 HG0 HG1 HBW3 HBW4 HX HG6 HG8 HG9 HB HSZ3 HSZ4 HSZ5 HS34 HS45 hz0 hz1 hz6 hz7
 have HRD := Aside0.mk (fun W (h : Q W) => And.intro (And.intro (R_C (HGET.out W h).2.2.2.1) (R_C (Kd.S_R (HGET.out W h).2.2.2.2))) (And.intro (And.intro (HL0.out.2.1) (Kd.F_now (HGET.out W h).2.1.1)) (And.intro HL1.out.2.1 (Kd.F_now (HGET.out W h).2.1.2))))
 have HEQ := Aside0.mk (fun W (h : Q W) => laws_eqWeb.calls kg Ga ga fl Gb gb ff Ua ua fl Ub ub ff true W (HRD.out W h).1.1.2.2 (HRD.out W h).1.1.2.1 (HRD.out W h).1.2.2.2 (HRD.out W h).1.2.2.1 (HRD.out W h).2.1.2 (HRD.out W h).2.1.1 (HRD.out W h).2.2.2 (HRD.out W h).2.2.1 hkg)
 have HB5 := Aside0.mk (fun W (h : Q W) => (HGET.out W h).1)
 go_must (refine (HEQ.out _ HQ5.out).mono ?_)
 rintro e w6 ⟨rfl, hb⟩
 have HQ6 := Aside0.mk (HMV.out _ _ hb HQ5.out)
 clear hb
 go_wp2_with fail
 have HCL := Aside0.mk (fun W (h : Q W) => show W.cell? ⟨b8, 0, none⟩ = some (.slice Xa legs.length xa) ∧ W.cell? ⟨b8, 1, none⟩ = some (.slice Xb forks.length xb) ∧ W.cell? ⟨w.heap.size, 0, none⟩ = some (.slice A0 legs.length c0) ∧ W.cell? ⟨w.heap.size, 1, none⟩ = some (.slice A1 forks.length c1) from
  ⟨(blk_cell (HB5.out W h).2.2.2.2.2.1 0).trans rfl, (blk_cell (HB5.out W h).2.2.2.2.2.1 1).trans rfl, (blk_cell (HB5.out W h).2.2.2.1 0).trans rfl, (blk_cell (HB5.out W h).2.2.2.1 1).trans rfl⟩)
 have HQ7 := Aside0.mk (HMV.out _ _ (below_drew (Below.refl _ w6)) HQ6.out)
 refine start_ (n := 5) (S := fun w' => w'.cell? ⟨b8, 0, none⟩ = some (.slice Xa legs.length xa) ∧ w'.cell? ⟨b8, 1, none⟩ = some (.slice Xb forks.length xb) ∧ w'.cell? ⟨w.heap.size, 0, none⟩ = some (.slice A0 legs.length c0) ∧ w'.cell? ⟨w.heap.size, 1, none⟩ = some (.slice A1 forks.length c1)) (ds := [3]) #[false, false, false, false, false] (by kernel_rfl) rfl rfl (HCL.out _ HQ7.out) (fun hHeld => ?_)
 generalize w6.drew = w7 at *
 refine take_ (i := 0) (N := (some 45)) (v := ?_) (a' := ?_) #[true, false, false, false, false] rfl rfl (by kernel_rfl) (fun _ _ _ h => h) (Or.inl ⟨by rfl, ?_⟩) hHeld ?_ ?_
 rotate_left
 · rintro w' ⟨s0, s1, s2, s3⟩
   go_simp
   with_reducible rfl
 rotate_left
 · simp only [Act.put, List.setIfInBounds_toArray, List.set_cons_zero, List.set_cons_succ, i64_w, i32_w]
   rfl
 refine take_ (i := 1) (N := (some 46)) (v := ?_) (a' := ?_) #[true, true, false, false, false] rfl rfl (by kernel_rfl) (fun _ _ _ h => h) (Or.inl ⟨by rfl, ?_⟩) hHeld ?_ ?_
 rotate_left
 · rintro w' ⟨s0, s1, s2, s3⟩
   go_simp
   with_reducible rfl
 rotate_left
 · simp only [Act.put, List.setIfInBounds_toArray, List.set_cons_zero, List.set_cons_succ, i64_w, i32_w]
   rfl
 refine one_ (i := 2) (N := (some 47)) #[true, true, true, false, false] rfl rfl (by kernel_rfl) (by decide) (fun K hK => ?_)
 refine goes_ Try.func14 (by kernel_rfl) rfl #[.agg #[.slice A0 legs.length c0, .slice A1 forks.length c1]] (by rfl) rfl rfl (by (try simp only [List.map_toArray, List.map_cons, List.map_nil]); rfl) ?_
 refine (HTO.out _ (HB5.out _ HQ7.out).1).mono ?_
 rintro e w8 ⟨v0, v1, rfl, ho0, ho1, hb⟩
 obtain ⟨Yb, yb, e1, hyb, hYb⟩ := Kd.S_reads ho1
 obtain ⟨Ya, ya, e0, hya, hYa⟩ := Kd.R_reads ho0
 clear ho0 ho1
 subst e0 e1
 have HY := Aside0.mk (And.intro hYa hYb)
 have HQ8 := Aside0.mk (HMV.out _ _ hb HQ7.out)
 clear hYa hYb hb
 refine ⟨_, rfl, ?_⟩
 refine hK.out _ _ (HCL.out _ HQ8.out) (fun hHeld => ?_)
 clear hK K
 refine norm_ (a' := ?_) ?_ ?_
 rotate_left
 · show Act.put _ (some 47) _ = _
   simp only [Act.put, List.setIfInBounds_toArray, List.set_cons_zero, List.set_cons_succ, i64_w, i32_w]
   rfl
 refine last_ (i := 3) (N := (some 48)) #[true, true, true, true, false] rfl rfl (by kernel_rfl) (by decide) (fun K hK => ?_)
 refine goes_ Try.func16 (by kernel_rfl) rfl #[.agg #[.slice Xa legs.length xa, .slice Xb forks.length xb], .agg #[.slice Ya legs.length ya, .slice Yb forks.length yb]] (by rfl) rfl rfl (by (try simp only [List.map_toArray, List.map_cons, List.map_nil]); rfl) ?_
 refine (laws_eqWeb.calls ke Xa xa legs Xb xb forks Ya ya legs Yb yb forks true w8 (R_C (HGET.out _ HQ8.out).2.2.1.1).2.2 (R_C (HGET.out _ HQ8.out).2.2.1.1).2.1 (R_C (Kd.S_R (HGET.out _ HQ8.out).2.2.1.2)).2.2 (R_C (Kd.S_R (HGET.out _ HQ8.out).2.2.1.2)).2.1 HY.out.1 hya HY.out.2 hyb hke).mono ?_
 rintro e w9 ⟨rfl, hb⟩
 have HQ9 := Aside0.mk (HMV.out _ _ hb HQ8.out)
 clear hb
 refine ⟨_, rfl, ?_⟩
 refine hK.out _ _ ?_
 clear hK K
 refine norm_ (a' := ?_) ?_ ?_
 rotate_left
 · show Act.put _ (some 48) _ = _
   simp only [Act.put, List.setIfInBounds_toArray, List.set_cons_zero, List.set_cons_succ, i64_w, i32_w]
   rfl
 refine pure_ (i := 4) (N := (some 49)) (v := ?_) (a' := ?_) #[true, true, true, true, true] rfl rfl (by kernel_rfl) (fun _ _ _ h => h) (Or.inl ⟨by rfl, ?_⟩) ?_ ?_
 rotate_left
 · intro w'
   go_simp
   with_reducible rfl
 rotate_left
 · simp only [Act.put, List.setIfInBounds_toArray, List.set_cons_zero, List.set_cons_succ, i64_w, i32_w]
   rfl
 refine done_ (by kernel_rfl) ?_
 have hz8 := (HCL.out _ HQ9.out).1
 have hz9 := (HCL.out _ HQ9.out).2.1
 go_wp2_with fail
 clear hz8 hz9
 go_must (refine (markWeb_any _ _ legs forks 1 W3 w9 _ _ (HB5.out _ HQ9.out).2.1 (HGET.out _ HQ9.out).2.2.1.1 (HGET.out _ HQ9.out).2.2.1.2 (fun j h1 h0 => h1.1 h0.1) (by omega) (by omega) (by omega) (fun j hj => by have := (HB5.out _ HQ9.out).2.2.1.size; have := HOR.out; rcases hj with hj | hj <;> omega)).mono ?_)
 rintro e w10 ⟨rfl, _, _, hb, hk⟩
 obtain ⟨P2, hp, hmv, hget⟩ : ∃ Q : World → Prop, Q w10 ∧ (∀ W W', Below W.heap.size W W' → Q W → Q W') ∧ ∀ W, Q W →
  (Below w.heap.size w W ∧ Below W3.heap.size W3 W ∧ W.heap[w.heap.size]? = some (.cells #[.slice A0 legs.length c0, .slice A1 forks.length c1] 28 (0, 0)) ∧ W.heap[b6]? = some (.cells #[.slice Ua fl.length ua, .slice Ub ff.length ub] 36 (0, 0)) ∧
   W.heap[b9]? = some (.cells #[.slice Ga fl.length ga, .slice Gb ff.length gb] 36 (0, 0))) ∧
  (Kd.F (Kd.int .i64) W (fun k => w2.heap.size ≤ k ∧ k < b6) Ua fl.length fl ∧ Kd.F (Kd.slice 2 (Kd.int .i64)) W (fun k => w2.heap.size ≤ k ∧ k < b6) Ub ff.length ff) ∧
  (Kd.R (Kd.int .i64) 2 W W3.heap.size (fun k => some k = (Value.slice Ga fl.length ga).ownBlock ∧ W4.heap.size ≤ k ∧ k < b9) (.slice Ga fl.length ga) fl ∧ Kd.S (Kd.slice 2 (Kd.int .i64)) 22 W W3.heap.size (fun k => some k ≠ (Value.slice Ga fl.length ga).ownBlock ∧ W4.heap.size ≤ k ∧ k < b9) (.slice Gb ff.length gb) ff) := by
  have hq := HGET.out _ HQ9.out
  have ho := HOR.out
  have hn : ∀ k, (k < W3.heap.size ∨ W4.heap.size ≤ k) → ¬ ((some k = (Value.slice Xa legs.length xa).ownBlock ∧ W3.heap.size ≤ k ∧ k < b8) ∨ (some k ≠ (Value.slice Xa legs.length xa).ownBlock ∧ W3.heap.size ≤ k ∧ k < b8)) := fun k hk h => by rcases h with h | h <;> omega
  exact ⟨_, ⟨⟨below_step HBa.out hb, hb, blk_kept hq.1.2.2.2.1 hk (hn _ (.inl (by omega))), blk_kept hq.1.2.2.2.2.1 hk (hn _ (.inl (by omega))), blk_kept hq.1.2.2.2.2.2.2 hk (hn _ (.inr (by omega)))⟩,
   ⟨Kd.F_kept hq.2.1.1 hk (fun k h => hn k (.inl (by omega))), Kd.F_kept hq.2.1.2 hk (fun k h => hn k (.inl (by omega)))⟩,
   Kd.R_lower (Kd.R_kept hq.2.2.2.1 hk (fun k h => hn k (.inr h.2.1))) (by omega), Kd.S_lower (Kd.S_kept hq.2.2.2.2 hk (fun k h => hn k (.inr h.2.1))) (by omega)⟩,
   fun W W' hb h => ⟨⟨below_step h.1.1 hb, below_step h.1.2.1 hb, blk_below h.1.2.2.1 hb, blk_below h.1.2.2.2.1 hb, blk_below h.1.2.2.2.2 hb⟩, ⟨Kd.F_below h.2.1.1 hb, Kd.F_below h.2.1.2 hb⟩, Kd.R_below h.2.2.1 hb, Kd.S_below h.2.2.2 hb⟩, fun W h => h⟩
 clear hb hk HQ5 HQ6 HQ7 HQ8 HQ9 HMV HGET HRD HEQ HB5 HCL
 have HQ10 := Aside0.mk hp
 have HMV := Aside0.mk hmv
 have HGET := Aside0.mk hget
 clear hp hmv hget
 have HRD := Aside0.mk (fun W (h : P2 W) => And.intro (And.intro (R_C (HGET.out W h).2.2.1) (R_C (Kd.S_R (HGET.out W h).2.2.2))) (And.intro (And.intro (HL0.out.2.1) (Kd.F_now (HGET.out W h).2.1.1)) (And.intro HL1.out.2.1 (Kd.F_now (HGET.out W h).2.1.2))))
 have hz0 := (blk_cell (HGET.out _ HQ10.out).1.2.2.2.2 0).trans (rfl : _ = some (Value.slice Ga fl.length ga))
 have hz1 := (blk_cell (HGET.out _ HQ10.out).1.2.2.2.2 1).trans (rfl : _ = some (Value.slice Gb ff.length gb))
 have hz6 := (blk_cell (HGET.out _ HQ10.out).1.2.2.2.1 0).trans (rfl : _ = some (Value.slice Ua fl.length ua))
 have hz7 := (blk_cell (HGET.out _ HQ10.out).1.2.2.2.1 1).trans (rfl : _ = some (Value.slice Ub ff.length ub))
 have hm1 : decide (1 + (legs.length : Int) + (lenLL forks : Int) < 0) = false := by simp; omega
 go_wp2_with fail
 clear hz0 hz1 hz6 hz7 hm1
 go_must (refine (laws_eqWeb.calls kg Ga ga fl Gb gb ff Ua ua fl Ub ub ff true w10 (HRD.out _ HQ10.out).1.1.2.2 (HRD.out _ HQ10.out).1.1.2.1 (HRD.out _ HQ10.out).1.2.2.2 (HRD.out _ HQ10.out).1.2.2.1 (HRD.out _ HQ10.out).2.1.2 (HRD.out _ HQ10.out).2.1.1 (HRD.out _ HQ10.out).2.2.2 (HRD.out _ HQ10.out).2.2.1 hkg).mono ?_)
 rintro e w11 ⟨rfl, hb⟩
 have HQ11 := Aside0.mk (HMV.out _ _ hb HQ10.out)
 have hz0 := (blk_cell (HGET.out _ HQ11.out).1.2.2.2.2 0).trans (rfl : _ = some (Value.slice Ga fl.length ga))
 have hz1 := (blk_cell (HGET.out _ HQ11.out).1.2.2.2.2 1).trans (rfl : _ = some (Value.slice Gb ff.length gb))
 clear hb
 go_wp2_with fail
 clear hz0 hz1
 go_must (refine (markWeb_any _ _ fl ff 1 W3 w11 _ _ (HGET.out _ HQ11.out).1.2.1 (HGET.out _ HQ11.out).2.2.1 (HGET.out _ HQ11.out).2.2.2 (fun j h1 h0 => h1.1 h0.1) (by omega) (by omega) (by omega) (fun j hj => by have := (Array.getElem?_eq_some_iff.1 (HGET.out _ HQ11.out).1.2.2.2.2).1; rcases hj with hj | hj <;> omega)).mono ?_)
 rintro e w12 ⟨rfl, hr, hs, hb, hk⟩
 obtain ⟨P3, hp, hmv, hget⟩ : ∃ Q : World → Prop, Q w12 ∧ (∀ W W', Below W.heap.size W W' → Q W → Q W') ∧ ∀ W, Q W →
  (Below w.heap.size w W ∧ W.heap[w.heap.size]? = some (.cells #[.slice A0 legs.length c0, .slice A1 forks.length c1] 28 (0, 0)) ∧ W.heap[b6]? = some (.cells #[.slice Ua fl.length ua, .slice Ub ff.length ub] 36 (0, 0)) ∧
   W.heap[b9]? = some (.cells #[.slice Ga fl.length ga, .slice Gb ff.length gb] 36 (0, 0))) ∧
  (Kd.C (Kd.int .i64) W Ua fl.length fl ∧ Kd.C (Kd.slice 2 (Kd.int .i64)) W Ub ff.length ff) ∧
  (Kd.C (Kd.int .i64) W Ga (marksL 1 fl.length).length (marksL 1 fl.length) ∧ Kd.C (Kd.slice 2 (Kd.int .i64)) W Gb (marksLL (1 + fl.length) ff).length (marksLL (1 + fl.length) ff)) := by
  have hq := HGET.out _ HQ11.out
  have ho := HOR.out
  have hn : ∀ k, (k < W4.heap.size ∨ b9 ≤ k) → ¬ ((some k = (Value.slice Ga fl.length ga).ownBlock ∧ W4.heap.size ≤ k ∧ k < b9) ∨ (some k ≠ (Value.slice Ga fl.length ga).ownBlock ∧ W4.heap.size ≤ k ∧ k < b9)) := fun k hk h => by rcases h with h | h <;> omega
  exact ⟨_, ⟨⟨below_step HBa.out hb, blk_kept hq.1.2.2.1 hk (hn _ (.inl (by omega))), blk_kept hq.1.2.2.2.1 hk (hn _ (.inl (by omega))), blk_kept hq.1.2.2.2.2 hk (hn _ (.inr (by omega)))⟩,
   ⟨Kd.F_now (Kd.F_kept hq.2.1.1 hk (fun k h => hn k (.inl (by omega)))), Kd.F_now (Kd.F_kept hq.2.1.2 hk (fun k h => hn k (.inl (by omega))))⟩, (R_C hr).2.2, (R_C (Kd.S_R hs)).2.2⟩,
   fun W W' hb h => ⟨⟨below_step h.1.1 hb, blk_below h.1.2.1 hb, blk_below h.1.2.2.1 hb, blk_below h.1.2.2.2 hb⟩, ⟨Kd.C_below h.2.1.1 hb, Kd.C_below h.2.1.2 hb⟩, Kd.C_below h.2.2.1 hb, Kd.C_below h.2.2.2 hb⟩, fun W h => h⟩
 have HGL := Aside0.mk (And.intro (HRD.out _ HQ11.out).1.1.2.1 (HRD.out _ HQ11.out).1.2.2.1)
 clear hb hk hr hs HQ10 HQ11 HMV HGET HRD
 have HQ12 := Aside0.mk hp
 have HMV := Aside0.mk hmv
 have HGET := Aside0.mk hget
 clear hp hmv hget
 have hz0 := (blk_cell (HGET.out _ HQ12.out).1.2.2.2 0).trans (rfl : _ = some (Value.slice Ga fl.length ga))
 have hz1 := (blk_cell (HGET.out _ HQ12.out).1.2.2.2 1).trans (rfl : _ = some (Value.slice Gb ff.length gb))
 go_wp2_with fail
 clear hz0 hz1
 have HHE := Aside0.mk (fun W (h : P3 W) => show Calls Try.prog 18 #[.agg #[.slice Ga fl.length ga, .slice Gb ff.length gb], .int .i64 1] W (fun e w' => e = .returned (.int .i64 (1 + fl.length + lenLL ff)) ∧ Below W.heap.size W w') from by
  have h1 := laws_heldWeb.calls kh Ga ga (marksL 1 fl.length) Gb gb (marksLL (1 + fl.length) ff) 1 _ W (HGET.out W h).2.2.1 (by rw [marksL_length]; exact HGL.out.1) (HGET.out W h).2.2.2 (by rw [marksLL_length]; exact HGL.out.2) hkh
  rw [marksL_length, marksLL_length] at h1
  exact h1)
 go_must (refine (HHE.out _ HQ12.out).mono ?_)
 rintro e w13 ⟨rfl, hb⟩
 have HQ13 := Aside0.mk (HMV.out _ _ hb HQ12.out)
 have hz0 := (blk_cell (HGET.out _ HQ13.out).1.2.1 0).trans (rfl : _ = some (Value.slice A0 legs.length c0))
 have hz1 := (blk_cell (HGET.out _ HQ13.out).1.2.1 1).trans (rfl : _ = some (Value.slice A1 forks.length c1))
 have hm1 : decide (1 + (fl.length : Int) + (lenLL ff : Int) < 0) = false := by simp; omega
 clear hb
 go_wp2_with fail
 clear hz0 hz1
 go_must (refine (HTO.out _ (HGET.out _ HQ13.out).1.1).mono ?_)
 rintro e w14 ⟨v0, v1, rfl, ho0, ho1, hb⟩
 obtain ⟨Yb, yb, e1, hyb, hYb⟩ := Kd.S_reads ho1
 obtain ⟨Ya, ya, e0, hya, hYa⟩ := Kd.R_reads ho0
 clear ho0 ho1
 subst e0 e1
 have HQ14 := Aside0.mk (HMV.out _ _ hb HQ13.out)
 have HIC := Aside0.mk (HIM.out _ _ _ _ _ hYa hya hYb hyb)
 clear hb hYa hYb
 go_wp2_with fail
 go_must (refine HIC.out.mono ?_)
 rintro e w15 ⟨v0, v1, rfl, ho0, ho1, hb⟩
 obtain ⟨Hb, hbc, e1, hyb2, hHb⟩ := Kd.S_reads ho1
 obtain ⟨Ha, hac, e0, hya2, hHa⟩ := Kd.R_reads ho0
 clear ho0 ho1
 subst e0 e1
 have hbb := below_alloc (Below.refl w15.heap.size w15) (.cells #[.slice Ha fl.length hac, .slice Hb ff.length hbc] 36)
 have HQ15 := Aside0.mk (HMV.out _ _ (below_step hb hbb) HQ14.out)
 have HH0 := Aside0.mk (Kd.C_below hHa hbb)
 have HH1 := Aside0.mk (Kd.C_below hHb hbb)
 have hz0 := (blk_cell (MapKept.heap_alloc w15 (.cells #[.slice Ha fl.length hac, .slice Hb ff.length hbc] 36)).1 0).trans (rfl : _ = some (Value.slice Ha fl.length hac))
 have hz1 := (blk_cell (MapKept.heap_alloc w15 (.cells #[.slice Ha fl.length hac, .slice Hb ff.length hbc] 36)).1 1).trans (rfl : _ = some (Value.slice Hb ff.length hbc))
 have hz6 := (blk_cell (HGET.out _ HQ15.out).1.2.2.1 0).trans (rfl : _ = some (Value.slice Ua fl.length ua))
 have hz7 := (blk_cell (HGET.out _ HQ15.out).1.2.2.1 1).trans (rfl : _ = some (Value.slice Ub ff.length ub))
 clear hb hbb hHa hHb
 go_wp2_with fail
 clear hz0 hz1 hz6 hz7
 go_must (refine (laws_eqWeb.calls kg Ha hac fl Hb hbc ff Ua ua fl Ub ub ff true _ HH0.out hya2 HH1.out hyb2 (HGET.out _ HQ15.out).2.1.1 HL0.out.2.1 (HGET.out _ HQ15.out).2.1.2 HL1.out.2.1 hkg).mono ?_)
 rintro e w16 ⟨rfl, hb⟩
 have HQ16 := Aside0.mk (HMV.out _ _ hb HQ15.out)
 have hz0 := (blk_cell (HGET.out _ HQ16.out).1.2.2.2 0).trans (rfl : _ = some (Value.slice Ga fl.length ga))
 have hz1 := (blk_cell (HGET.out _ HQ16.out).1.2.2.2 1).trans (rfl : _ = some (Value.slice Gb ff.length gb))
 clear hb
 go_wp2_with fail
 clear hz0 hz1
 go_must (refine (HHE.out _ HQ16.out).mono ?_)
 rintro e w17 ⟨rfl, hb⟩
 have HQ17 := Aside0.mk (HMV.out _ _ hb HQ16.out)
 clear hb
 go_wp2_with fail
 go_ret
 exact ⟨by rfl, (HGET.out _ HQ17.out).1.1⟩
end Go.Proofs.Ytibahnmljafkdaa.P
