/- 'ForkLegs' ties two neighbouring legs of a web by a new fork. -/
import Derived.Test.YtibahnmljafkdaaCdPureFork
import Derived.Test.YtibahnmljafkdaaCdIsWeb
import Derived.Test.YtibahnmljafkdaaCdReplace
import Derived.Lib.LazyBuf
import Derived.Test.YtibahnmljafkdaaCdPx6
namespace Go.Proofs.Ytibahnmljafkdaa.P
open Go.RowKit Go.Maps Go.Proofs.YtibahnmljafkdaaW.PrintWords Go.Proofs.YtibahnmljafkdaaW.PrintLast Go.Proofs.YtibahnmljafkdaaW.PrintMore
set_option linter.unusedVariables false
set_option linter.unusedSimpArgs false
theorem clone_l0 (legs : List Int) (forks : List (List Int)) (hn : forks.length ≤ 1000) (hf : ∀ f ∈ forks, f.length = 3) : ∀ (d i : Nat), i + d = forks.length → Ev (fun k => impl_cloneWeb.l0 k forks (forks.length : Int) (i : Int) legs (forks.take i)) (legs, forks) := by
 intro d
 induction d with
 | zero =>
  intro i hi
  refine Ev.step (fun k => by rw [impl_cloneWeb.l0]) ?_
  simp only [if_neg (show ¬ ((i : Int) < (forks.length : Int)) by omega)]
  exact ev_val (by rw [List.take_of_length_le (by omega)])
 | succ d ih =>
  intro i hi
  refine Ev.step (fun k => by rw [impl_cloneWeb.l0]) ?_
  have h3 := hf _ (rdL_mem forks i (by omega))
  have hl : (forks.take i).length < 5864062014805 := by simp; omega
  simp only [if_pos (show ((i : Int) < (forks.length : Int)) by omega), if_pos (show (0 : Int) ≤ (i : Int) by omega), slices_Clone_int64_int64.f, if_pos (show 0 < (rd_L1 forks (i : Int)).length ∧ (rd_L1 forks (i : Int)).length ≤ 1000000000000 by omega), Option.bind_some, if_pos hl, wr1 i forks.length (by omega) (by omega)]
  rw [← take_succ_L forks i (by omega)]
  exact ih (i + 1) (by omega)
theorem ev_clone (legs : List Int) (forks : List (List Int)) (h0 : 0 < legs.length) (h1 : legs.length ≤ 1000) (hn : forks.length ≤ 1000) (hf : ∀ f ∈ forks, f.length = 3) : Ev (fun k => impl_cloneWeb.f k legs forks) (legs, forks) := by
 unfold impl_cloneWeb.f
 simp only [slices_Clone_int64_int64.f, if_pos (show 0 < legs.length ∧ legs.length ≤ 1000000000000 by omega), Option.bind_some]
 have := clone_l0 legs forks hn hf forks.length 0 (by omega)
 simpa using this
theorem fault_eq (legs : List Int) (forks : List (List Int)) (x : Int) (h0 : legs.length ≤ 1000000000000) (h1 : forks.length ≤ 1000000000000) : impl_legsFault.f legs forks x = some (forkR legs forks x).2.2 := by
 unfold impl_legsFault.f impl_IsWeb.f
 rw [if_pos ⟨h0, h1⟩, Option.bind_some]
 have e1 : wrap64 ((legs.length : Int) - 2) = (legs.length : Int) - 2 := by unfold wrap64; omega
 cases hi : isWebB legs forks with
 | false => simp [forkR, hi]
 | true =>
  simp only [forkR, hi, if_true, impl_in.f, e1]
  by_cases h2 : x ≥ 0
  · by_cases h3 : x ≤ (legs.length : Int) - 2
    · simp only [if_pos h2, Option.bind_some, h3, decide_true, if_true, if_pos (show 0 ≤ x ∧ True from ⟨h2, trivial⟩)]
    · simp only [if_pos h2, Option.bind_some, h3, decide_false, Bool.false_eq_true, if_false, and_false]
  · simp only [if_neg h2, Option.bind_some, Bool.false_eq_true, if_false, if_neg (show ¬ (0 ≤ x ∧ x ≤ (legs.length : Int) - 2) from fun h => h2 h.1)]
set_option maxRecDepth 100000 in
set_option maxHeartbeats 2000000 in
theorem forkLegs_bad (A0 : Option Addr) (c0 : Nat) (legs : List Int) (A1 : Option Addr) (c1 : Nat) (forks : List (List Int)) (x : Int) (w : World)
 (hr0 : Kd.C (Kd.int .i64) w A0 legs.length legs) (hc0 : legs.length ≤ c0) (hr1 : Kd.C (Kd.slice 2 (Kd.int .i64)) w A1 forks.length forks) (hc1 : forks.length ≤ c1) (hl0 : legs.length ≤ 1000000000000) (hl1 : forks.length ≤ 1000000000000) (hbad : (forkR legs forks x).2.2 ≠ 0) :
 Calls Try.prog 15 #[.agg #[.slice A0 legs.length c0, .slice A1 forks.length c1], .int .i64 x] w fun e w' => e = .returned (.tuple #[.agg #[.slice none 0 0, .slice none 0 0], .int .i64 (forkR legs forks x).2.2]) ∧ Below w.heap.size w w' := by
 have hu36 := Try.underlying36
 have HF := Aside0.mk (fun W (hb : Below w.heap.size w W) => impl_legsFault.calls A0 c0 legs A1 c1 forks x _ W (Kd.C_below hr0 hb) hc0 (Kd.C_below hr1 hb) hc1 (fault_eq legs forks x hl0 hl1))
 have HB0 := Aside0.mk (below_alloc (below_alloc (Below.refl w.heap.size w) (.cells #[.slice A0 legs.length c0, .slice A1 forks.length c1] 36)) (.cells #[.slice none 0 0, .slice none 0 0] 36))
 have HW0 := Aside0.mk (show ((w.alloc (.cells #[.slice A0 legs.length c0, .slice A1 forks.length c1] 36)).alloc (.cells #[.slice none 0 0, .slice none 0 0] 36)).heap[w.heap.size + 1]? = some (.cells #[.slice none 0 0, .slice none 0 0] 36 (0, 0)) from by
  have := (MapKept.heap_alloc (w.alloc (.cells #[.slice A0 legs.length c0, .slice A1 forks.length c1] 36)) (.cells #[.slice none 0 0, .slice none 0 0] 36)).1
  rwa [show (w.alloc (.cells #[.slice A0 legs.length c0, .slice A1 forks.length c1] 36)).heap.size = w.heap.size + 1 from by simp] at this)
 generalize hcode : (forkR legs forks x).2.2 = code at *
 have hc' : (code != 0) = true := by simpa using hbad
 clear hr0 hr1 hbad hcode
 go_enter Try.func15, Try.ntmps15
 go_wp2_with (first
  | (go_at_call 41; go_must (refine (HF.out _ HB0.out).mono ?_); rintro e w1 ⟨rfl, hb1⟩; have HB1 := Aside0.mk (below_step HB0.out hb1); have hW1 := (hb1.block (w.heap.size + 1) (by simp)).trans HW0.out; have hz0 : w1.cell? ⟨w.heap.size + 1, 0, none⟩ = some (.slice none 0 0) := (blk_cell hW1 0).trans rfl; have hz1 : w1.cell? ⟨w.heap.size + 1, 1, none⟩ = some (.slice none 0 0) := (blk_cell hW1 1).trans rfl; have hf0 := blk_frozen hW1 0; have hf1 := blk_frozen hW1 1; have HW1 := Aside0.mk hW1; clear hW1; clear hb1)
  | go_in)
 refine bodyPost_ret (results_ct rfl _ _ (w.heap.size + 1) 36 #[.slice none 0 0, .slice none 0 0] (0, 0) _ rfl (by refine blk_put (cs := #[.slice none 0 0, .slice none 0 0]) ?_ 1 _ rfl; refine blk_put (cs := #[.slice none 0 0, .slice none 0 0]) ?_ 0 _ rfl; exact HW1.out) Try.underlying36 rfl (by kernel_rfl)) rfl ?_
 exact ⟨by rfl, (HB1.out.setCell (p := ⟨w.heap.size + 1, 0, none⟩) (Nat.le_succ _) _).setCell (p := ⟨w.heap.size + 1, 1, none⟩) (Nat.le_succ _) _⟩
theorem add_block (ad : Addr) (n : Nat) : (ad.add n).block = ad.block := by unfold Addr.add; first | rfl | (split <;> rfl)
set_option maxRecDepth 100000 in
set_option maxHeartbeats 4000000 in
theorem forkLegs_good (A0 : Option Addr) (c0 : Nat) (legs : List Int) (A1 : Option Addr) (c1 : Nat) (forks : List (List Int)) (j : Nat) (w : World)
 (hr0 : Kd.C (Kd.int .i64) w A0 legs.length legs) (hc0 : legs.length ≤ c0) (hr1 : Kd.C (Kd.slice 2 (Kd.int .i64)) w A1 forks.length forks) (hc1 : forks.length ≤ c1) (hi : isWebB legs forks = true) (hj : j + 2 ≤ legs.length) :
 Calls Try.prog 15 #[.agg #[.slice A0 legs.length c0, .slice A1 forks.length c1], .int .i64 (j : Int)] w fun e w' => ∃ v0 v1, e = .returned (.tuple #[.agg #[v0, v1], .int .i64 0]) ∧
  Kd.R (Kd.int .i64) 2 w' w.heap.size (fun _ => True) v0 (forkedLegs legs (mexL (allE legs forks)) j) ∧ Kd.S (Kd.slice 2 (Kd.int .i64)) 22 w' w.heap.size (fun k_ => some k_ ≠ v0.ownBlock) v1 (forkedForks legs forks (mexL (allE legs forks)) j) ∧ Below w.heap.size w w' := by
 have hu36 := Try.underlying36
 have hw := isWebB_facts hi
 have hm := mexL_is (allE legs forks) hw.2.2
 have hfr : (forkR legs forks (j : Int)).2.2 = 0 := by simp only [forkR, hi, if_true, if_pos (show 0 ≤ (j : Int) ∧ (j : Int) ≤ (legs.length : Int) - 2 by omega)]
 have hfe := fault_eq legs forks (j : Int) (by omega) (by omega)
 rw [hfr] at hfe
 obtain ⟨kc, hkc⟩ := (ev_clone legs forks (by omega) (by omega) (by omega) hw.2.1).rounds
 have HF := Aside0.mk (fun W (hb : Below w.heap.size w W) => impl_legsFault.calls A0 c0 legs A1 c1 forks (j : Int) _ W (Kd.C_below hr0 hb) hc0 (Kd.C_below hr1 hb) hc1 hfe)
 have HC := Aside0.mk (fun W (hb : Below w.heap.size w W) => impl_cloneWeb.calls kc A0 c0 legs A1 c1 forks _ _ W (Kd.C_below hr0 hb) hc0 (Kd.C_below hr1 hb) hc1 hkc)
 have HS := Aside0.mk (fun W (hb : Below w.heap.size w W) g (hg : W.heap[g]? = some (.cells #[.slice A0 legs.length c0, .slice A1 forks.length c1] 36 (0, 0))) => stands_any g A0 c0 legs A1 c1 forks W hg (Kd.C_below hr0 hb) hc0 (Kd.C_below hr1 hb) hc1 (by omega) (by omega) (fun f hf => by have := hw.2.1 f hf; omega))
 have HR0 := Aside0.mk hr0
 have HB0 := Aside0.mk (below_alloc (below_alloc (Below.refl w.heap.size w) (.cells #[.slice A0 legs.length c0, .slice A1 forks.length c1] 36)) (.cells #[.slice none 0 0, .slice none 0 0] 36))
 have HW0 := Aside0.mk (show ((w.alloc (.cells #[.slice A0 legs.length c0, .slice A1 forks.length c1] 36)).alloc (.cells #[.slice none 0 0, .slice none 0 0] 36)).heap[w.heap.size]? = some (.cells #[.slice A0 legs.length c0, .slice A1 forks.length c1] 36 (0, 0)) from by
  have h1 := (MapKept.heap_alloc w (.cells #[.slice A0 legs.length c0, .slice A1 forks.length c1] 36)).1
  exact (((Below.refl (w.heap.size + 1) (w.alloc (.cells #[.slice A0 legs.length c0, .slice A1 forks.length c1] 36))).alloc (by simp) (.cells #[.slice none 0 0, .slice none 0 0] 36)).block _ (Nat.lt_succ_self _)).trans h1)
 have HW04 := Aside0.mk (show ((w.alloc (.cells #[.slice A0 legs.length c0, .slice A1 forks.length c1] 36)).alloc (.cells #[.slice none 0 0, .slice none 0 0] 36)).heap[w.heap.size + 1]? = some (.cells #[.slice none 0 0, .slice none 0 0] 36 (0, 0)) from by
  have := (MapKept.heap_alloc (w.alloc (.cells #[.slice A0 legs.length c0, .slice A1 forks.length c1] 36)) (.cells #[.slice none 0 0, .slice none 0 0] 36)).1
  rwa [show (w.alloc (.cells #[.slice A0 legs.length c0, .slice A1 forks.length c1] 36)).heap.size = w.heap.size + 1 from by simp] at this)
 have HIN := Aside0.mk (fun (kv : List (Int × Value)) (W : World) (base : Nat) (he : Ends W base kv (webM legs forks)) (q : Nat) (hq : q < mexL (allE legs forks)) => show ∃ av nv cv, kvGet kv (q : Int) = some (.slice (some av) nv cv) from by
  have hmem := hm.2.1 q hq
  have hcnt : 0 < (allE legs forks).count (q : Int) := List.count_pos_iff.2 hmem
  rw [← endsL_fst, ← endsAt_len] at hcnt
  have hne : endsAt (endsL legs forks) (q : Int) ≠ [] := fun h => by rw [h] at hcnt; simp at hcnt
  have hg := webM_get legs forks (q : Int)
  rw [if_neg hne] at hg
  have hk := kvGet_keys he.keys (q : Int)
  rw [hg] at hk
  cases hv : kvGet kv (q : Int) with
  | none => rw [hv] at hk; cases hk
  | some v =>
   have hrow := he.rows _ v _ hv hg
   obtain ⟨A, c, rfl, hrow⟩ := R_open hrow (n := (endsAt (endsL legs forks) (q : Int)).length) rfl
   obtain ⟨g, rfl, _⟩ := R_block hrow hcnt
   exact ⟨_, _, _, rfl⟩)
 have HOUT := Aside0.mk (fun (kv : List (Int × Value)) (W : World) (base : Nat) (he : Ends W base kv (webM legs forks)) => show kvGet kv (mexL (allE legs forks) : Int) = none from by
  have hnm := hm.1
  have hcnt : (allE legs forks).count (mexL (allE legs forks) : Int) = 0 := List.count_eq_zero.2 hnm
  have hcnt2 : (endsAt (endsL legs forks) (mexL (allE legs forks) : Int)).length = 0 := by rw [endsAt_len, endsL_fst]; exact hcnt
  have hg := webM_get legs forks (mexL (allE legs forks) : Int)
  rw [if_pos (List.eq_nil_of_length_eq_zero hcnt2)] at hg
  have hk := kvGet_keys he.keys (mexL (allE legs forks) : Int)
  rw [hg] at hk
  cases hv : kvGet kv (mexL (allE legs forks) : Int) with
  | none => rfl
  | some v => rw [hv] at hk; cases hk)
 have hmx := hm.2.2
 have hne1 : ∀ (w : World) (a : Addr) (n c : Nat), (binOp .neq 68 (.slice (some a) n c) (.slice none 0 0)).run Try.prog w = .ok (.bool true) w := fun w a n c => run_neq_slice_nil w _ _ (some a) n c Try.underlying68
 have hne2 : ∀ (w : World), (binOp .neq 68 (.slice none 0 0) (.slice none 0 0)).run Try.prog w = .ok (.bool false) w := fun w => run_neq_slice_nil w _ _ none 0 0 Try.underlying68
 change Aside0 (∀ W, Below w.heap.size w W → ∀ g, W.heap[g]? = some (.cells #[.slice A0 legs.length c0, .slice A1 forks.length c1] 36 (0, 0)) → Calls Try.prog 43 #[.pointer (some ⟨g, 0, none⟩)] W fun e w' => ∃ b kv, e = .returned (.map (some b)) ∧ W.heap.size ≤ b ∧ mapKV w' (Value.int .i64) b kv ∧ Ends w' W.heap.size kv (webM legs forks) ∧ Below W.heap.size W w') at HS
 generalize mexL (allE legs forks) = M at *
 have hnl : legs.length ≤ 8 := by omega
 have hnf : forks.length ≤ 8 := by omega
 clear hr0 hr1 hi hw hfr hfe hkc hm
 go_enter Try.func15, Try.ntmps15
 go_wp2_with (first
  | (go_at_call 41; go_must (refine (HF.out _ HB0.out).mono ?_); rintro e w1 ⟨rfl, hb1⟩; have HB1 := Aside0.mk (below_step HB0.out hb1); have hW1 := (hb1.block w.heap.size (by simp; omega)).trans HW0.out; have hz0 : w1.cell? ⟨w.heap.size, 0, none⟩ = some (.slice A0 legs.length c0) := (blk_cell hW1 0).trans rfl; have hz1 : w1.cell? ⟨w.heap.size, 1, none⟩ = some (.slice A1 forks.length c1) := (blk_cell hW1 1).trans rfl; have HW1 := Aside0.mk hW1; have HW41 := Aside0.mk ((hb1.block (w.heap.size + 1) (by simp)).trans HW04.out); clear hW1; clear hb1)
  | (go_at_call 42; go_must (refine (HC.out _ HB1.out).mono ?_); rintro e w2 ⟨v0, v1, rfl, ho0, ho1, hb2⟩; obtain ⟨Av0, cv0, rfl, ho0⟩ := R_open ho0 (n := legs.length) rfl; obtain ⟨Av1, cv1, rfl⟩ := Kd.R_slice (Kd.S_R ho1); have HB2 := Aside0.mk (below_step HB1.out hb2); have HW2 := Aside0.mk ((hb2.block w.heap.size (by have := HB1.out.size; have := (Array.getElem?_eq_some_iff.1 HW1.out).1; omega)).trans HW1.out); have HO0 := Aside0.mk ho0; have HO1 := Aside0.mk ho1; have HU2 := Aside0.mk hb2; clear ho0 ho1 hb2)
  | (go_at_call 43; go_must (refine (HS.out _ HB2.out _ HW2.out).mono ?_); rintro e w3 ⟨b, kv, rfl, hb3, hm3, he3, hbl3⟩; have HB3 := Aside0.mk (below_step HB2.out hbl3); have HW3 := Aside0.mk ((hbl3.block w.heap.size (Array.getElem?_eq_some_iff.1 HW2.out).1).trans HW2.out); have HO2 := Aside0.mk (Kd.R_below HO0.out hbl3); have HO3 := Aside0.mk (Kd.S_below HO1.out hbl3); have HU3 := Aside0.mk (below_step HU2.out hbl3); have HM3 := Aside0.mk hm3; have HE3 := Aside0.mk he3; clear hm3 he3 hbl3))
 generalize hwl : w3.alloc (.cells #[.slice Av0 legs.length cv0, .slice Av1 forks.length cv1] 36) = wl
 have hbl : Below w3.heap.size w3 wl := by rw [← hwl]; exact below_alloc (Below.refl _ w3) _
 have hg7 : wl.heap[w3.heap.size]? = some (.cells #[.slice Av0 legs.length cv0, .slice Av1 forks.length cv1] 36 (0, 0)) := by rw [← hwl]; exact (MapKept.heap_alloc w3 _).1
 have HML := Aside0.mk (HM3.out.below hbl)
 have HEL := Aside0.mk (HE3.out.below hbl)
 have HBL := Aside0.mk (below_step HB3.out hbl)
 have HWL := Aside0.mk ((hbl.block w.heap.size (Array.getElem?_eq_some_iff.1 HW3.out).1).trans HW3.out)
 have HOL := Aside0.mk (Kd.R_below HO2.out hbl)
 have HSL := Aside0.mk (Kd.S_below HO3.out hbl)
 have HG7 := Aside0.mk hg7
 have HLT1 := Aside0.mk (Kd.S_lt HO3.out)
 have HS3 := Aside0.mk HU3.out.size
 have HUL := Aside0.mk (below_step HU3.out hbl)
 have HBS1 := Aside0.mk (Kd.S_base HO3.out)
 have HLT0 := Aside0.mk (Kd.R_lt HO2.out)
 have HBS0 := Aside0.mk (Kd.R_base HO2.out)
 have HGW := Aside0.mk (Array.getElem?_eq_some_iff.1 HW1.out).1
 clear hwl hbl hg7 HM3 HE3 HB3 HW3 HO2 HO3 HO0 HO1 hz0 hz1
 go_loopw [8] (fun i wr => ∃ q : Nat, q ≤ M ∧ i = .int .i64 q ∧ wr = wl) (fun i _ => M - (intOf i).toNat)
 case atStart => exact ⟨0, Nat.zero_le _, rfl, rfl⟩
 case round =>
  obtain ⟨q, hq, rfl, rfl⟩ := hrel
  by_cases hlt : q < M
  · obtain ⟨av, nv, cv, hkv⟩ := HIN.out kv wr _ HEL.out q hlt
    go_wp2_with (first
     | (at_lookup; go_must (refine wpList_lookup_kv rfl _ _ 66 rfl 2 68 (Value.int .i64) keyI64 Try.underlying66 (.slice none 0 0) (zeroS _) b _ rfl HML.out (q : Int) rfl (.slice (some av) nv cv) (by rw [hkv]; rfl) ?_))
     | go_in)
    go_roundw
    case rel => exact ⟨q + 1, by omega, by go_num, trivial⟩
    case measure => simp [intOf]; omega
  · obtain rfl : q = M := by omega
    have hkv := HOUT.out kv wr _ HEL.out
    go_wp2_with (first
     | (at_lookup; go_must (refine wpList_lookup_kv rfl _ _ 66 rfl 2 68 (Value.int .i64) keyI64 Try.underlying66 (.slice none 0 0) (zeroS _) b _ rfl HML.out (q : Int) rfl (.slice none 0 0) (by rw [hkv]; rfl) ?_))
     | go_in)
    obtain ⟨ad, ea, hx0⟩ := Kd.at_int (Kd.C_below HR0.out HBL.out) (j : Int) (by omega) (by omega)
    obtain ⟨ad2, ea2, hx1⟩ := Kd.at_int (Kd.C_below HR0.out HBL.out) ((j + 1 : Nat) : Int) (by omega) (by omega)
    rw [ea] at ea2
    cases ea2
    subst ea
    rw [Int.toNat_natCast] at hx0 hx1
    obtain ⟨p0, hp0⟩ : ∃ p0, p0 = rd legs (j : Int) := ⟨_, rfl⟩
    obtain ⟨p1, hp1⟩ : ∃ p1, p1 = rd legs ((j + 1 : Nat) : Int) := ⟨_, rfl⟩
    rw [← hp0] at hx0
    rw [← hp1] at hx1
    have HX := Aside0.mk (fun (W : World) (h : Below wr.heap.size wr W) => show W.cell? ⟨w3.heap.size, 1, none⟩ = some (.slice Av1 forks.length cv1) ∧ W.cell? ⟨w.heap.size, 0, none⟩ = some (.slice (some ad) legs.length c0) ∧ W.cell? (ad.add j) = some (.int .i64 p0) ∧ W.cell? ⟨ad.block, ad.off + (j + 1), none⟩ = some (.int .i64 p1) from
     ⟨pw_cell_below h ((blk_cell HG7.out 1).trans rfl), pw_cell_below h ((blk_cell HWL.out 0).trans rfl), pw_cell_below h hx0, pw_cell_below h hx1⟩)
    have HP0 := Aside0.mk hp0
    have HP1 := Aside0.mk hp1
    have HAD := Aside0.mk (show ad.block < w.heap.size from by
     obtain ⟨ad3, e3, h3⟩ := Kd.at_int HR0.out (j : Int) (by omega) (by omega)
     cases e3
     have h4 : (ad.add ((j : Int)).toNat).block < w.heap.size := World.block_lt_of_cell? w _ h3
     rwa [add_block] at h4)
    clear hp0 hp1 hx0 hx1 hkv
    have hjw : wrap64 ((j : Int) + 1) = ((j + 1 : Nat) : Int) := by unfold wrap64; omega
    have hjt : ((j : Int) + 1).toNat = j + 1 := by omega
    have hjb : (0 : Int) ≤ (j : Int) ∧ (j : Int) < (legs.length : Int) := by omega
    have hjb3 : (0 : Int) ≤ (j : Int) + 1 ∧ (j : Int) + 1 < (legs.length : Int) := by omega
    have hjb2 : (0 : Int) ≤ ((j + 1 : Nat) : Int) ∧ ((j + 1 : Nat) : Int) < (legs.length : Int) := by omega
    go_wp2
    refine start_ (n := 19) (S := fun w' => w'.cell? ⟨w3.heap.size, 1, none⟩ = some (.slice Av1 forks.length cv1) ∧ w'.cell? ⟨w.heap.size, 0, none⟩ = some (.slice (some ad) legs.length c0) ∧ w'.cell? (ad.add j) = some (.int .i64 p0) ∧ w'.cell? ⟨ad.block, ad.off + (j + 1), none⟩ = some (.int .i64 p1)) (ds := [18]) #[false, false, false, false, false, false, false, false, false, false, false, false, false, false, false, false, false, false, false] (by kernel_rfl) rfl rfl (HX.out _ (below_drew1 (Below.refl _ _))) (fun hHeld => ?_)
    have hbz := below_drew1 (Below.refl wr.heap.size wr)
    have HBZ := Aside0.mk hbz
    have HOZ := Aside0.mk (Kd.R_below HOL.out hbz)
    have HSZ := Aside0.mk (Kd.S_below HSL.out hbz)
    have hsz : wr.drew.heap.size = wr.heap.size := rfl
    clear hbz HOL HSL
    generalize wr.drew = wz at HBZ HOZ HSZ hHeld hsz ⊢
    refine pure_ (i := 0) (N := (some 26)) (v := ?_) (a' := ?_) #[true, false, false, false, false, false, false, false, false, false, false, false, false, false, false, false, false, false, false] rfl rfl (by kernel_rfl) (fun _ _ _ h => h) (Or.inl ⟨by rfl, ?_⟩) ?_ ?_
    rotate_left
    · intro w'
      go_simp
      with_reducible rfl
    rotate_left
    · simp only [Act.put, List.setIfInBounds_toArray, List.set_cons_zero, List.set_cons_succ, i64_w, i32_w]
      rfl
    refine take_ (i := 1) (N := (some 27)) (v := ?_) (a' := ?_) #[true, true, false, false, false, false, false, false, false, false, false, false, false, false, false, false, false, false, false] rfl rfl (by kernel_rfl) (fun _ _ _ h => h) (Or.inl ⟨by rfl, ?_⟩) hHeld ?_ ?_
    rotate_left
    · rintro w' ⟨s0, s1, s2, s3⟩
      go_simp
      with_reducible rfl
    rotate_left
    · simp only [Act.put, List.setIfInBounds_toArray, List.set_cons_zero, List.set_cons_succ, i64_w, i32_w]
      rfl
    refine pure_ (i := 2) (N := (some 28)) (v := ?_) (a' := ?_) #[true, true, true, false, false, false, false, false, false, false, false, false, false, false, false, false, false, false, false] rfl rfl (by kernel_rfl) (fun _ _ _ h => h) (Or.inl ⟨by rfl, ?_⟩) ?_ ?_
    rotate_left
    · intro w'
      go_simp
      with_reducible rfl
    rotate_left
    · simp only [Act.put, List.setIfInBounds_toArray, List.set_cons_zero, List.set_cons_succ, i64_w, i32_w]
      rfl
    refine pure_ (i := 3) (N := (some 29)) (v := ?_) (a' := ?_) #[true, true, true, true, false, false, false, false, false, false, false, false, false, false, false, false, false, false, false] rfl rfl (by kernel_rfl) (fun _ _ _ h => h) (Or.inl ⟨by rfl, ?_⟩) ?_ ?_
    rotate_left
    · intro w'
      go_simp
      with_reducible rfl
    rotate_left
    · simp only [Act.put, List.setIfInBounds_toArray, List.set_cons_zero, List.set_cons_succ, i64_w, i32_w]
      rfl
    refine take_ (i := 4) (N := (some 30)) (v := ?_) (a' := ?_) #[true, true, true, true, true, false, false, false, false, false, false, false, false, false, false, false, false, false, false] rfl rfl (by kernel_rfl) (fun _ _ _ h => h) (Or.inl ⟨by rfl, ?_⟩) hHeld ?_ ?_
    rotate_left
    · rintro w' ⟨s0, s1, s2, s3⟩
      go_simp
      with_reducible rfl
    rotate_left
    · simp only [Act.put, List.setIfInBounds_toArray, List.set_cons_zero, List.set_cons_succ, i64_w, i32_w]
      rfl
    refine pure_ (i := 5) (N := (some 31)) (v := ?_) (a' := ?_) #[true, true, true, true, true, true, false, false, false, false, false, false, false, false, false, false, false, false, false] rfl rfl (by kernel_rfl) (fun _ _ _ h => h) (Or.inl ⟨by rfl, ?_⟩) ?_ ?_
    rotate_left
    · intro w'
      go_simp
      with_reducible rfl
    rotate_left
    · simp only [Act.put, List.setIfInBounds_toArray, List.set_cons_zero, List.set_cons_succ, i64_w, i32_w]
      rfl
    refine pure_ (i := 6) (N := (some 32)) (v := ?_) (a' := ?_) #[true, true, true, true, true, true, true, false, false, false, false, false, false, false, false, false, false, false, false] rfl rfl (by kernel_rfl) (fun _ _ _ h => h) (Or.inl ⟨by rfl, ?_⟩) ?_ ?_
    rotate_left
    · intro w'
      go_simp
      with_reducible rfl
    rotate_left
    · simp only [Act.put, List.setIfInBounds_toArray, List.set_cons_zero, List.set_cons_succ, i64_w, i32_w]
      rfl
    refine take_ (i := 7) (N := (some 33)) (v := ?_) (a' := ?_) #[true, true, true, true, true, true, true, true, false, false, false, false, false, false, false, false, false, false, false] rfl rfl (by kernel_rfl) (fun _ _ _ h => h) (Or.inl ⟨by rfl, ?_⟩) hHeld ?_ ?_
    rotate_left
    · rintro w' ⟨s0, s1, s2, s3⟩
      go_simp
      with_reducible rfl
    rotate_left
    · simp only [Act.put, List.setIfInBounds_toArray, List.set_cons_zero, List.set_cons_succ, i64_w, i32_w]
      rfl
    refine pure_ (i := 8) (N := (some 34)) (v := ?_) (a' := ?_) #[true, true, true, true, true, true, true, true, true, false, false, false, false, false, false, false, false, false, false] rfl rfl (by kernel_rfl) (fun _ _ _ h => h) (Or.inl ⟨by rfl, ?_⟩) ?_ ?_
    rotate_left
    · intro w'
      go_simp
      with_reducible rfl
    rotate_left
    · simp only [Act.put, List.setIfInBounds_toArray, List.set_cons_zero, List.set_cons_succ, i64_w, i32_w]
      rfl
    refine take_ (i := 9) (N := (some 35)) (v := ?_) (a' := ?_) #[true, true, true, true, true, true, true, true, true, true, false, false, false, false, false, false, false, false, false] rfl rfl (by kernel_rfl) (fun _ _ _ h => h) (Or.inl ⟨by rfl, ?_⟩) hHeld ?_ ?_
    rotate_left
    · rintro w' ⟨s0, s1, s2, s3⟩
      go_simp
      with_reducible rfl
    rotate_left
    · simp only [Act.put, List.setIfInBounds_toArray, List.set_cons_zero, List.set_cons_succ, i64_w, i32_w]
      rfl
    refine pure_ (i := 10) (N := (some 36)) (v := ?_) (a' := ?_) #[true, true, true, true, true, true, true, true, true, true, true, false, false, false, false, false, false, false, false] rfl rfl (by kernel_rfl) (fun _ _ _ h => h) (Or.inl ⟨by rfl, ?_⟩) ?_ ?_
    rotate_left
    · intro w'
      go_simp
      with_reducible rfl
    rotate_left
    · simp only [Act.put, List.setIfInBounds_toArray, List.set_cons_zero, List.set_cons_succ, i64_w, i32_w]
      rfl
    refine pure_ (i := 11) (N := (some 37)) (v := ?_) (a' := ?_) #[true, true, true, true, true, true, true, true, true, true, true, true, false, false, false, false, false, false, false] rfl rfl (by kernel_rfl) (fun _ _ _ h => h) (Or.inl ⟨by rfl, ?_⟩) ?_ ?_
    rotate_left
    · intro w'
      go_simp
      with_reducible rfl
    rotate_left
    · simp only [Act.put, List.setIfInBounds_toArray, List.set_cons_zero, List.set_cons_succ, i64_w, i32_w]
      rfl
    refine pure_ (i := 12) (N := (some 38)) (v := ?_) (a' := ?_) #[true, true, true, true, true, true, true, true, true, true, true, true, true, false, false, false, false, false, false] rfl rfl (by kernel_rfl) (fun _ _ _ h => h) (Or.inl ⟨by rfl, ?_⟩) ?_ ?_
    rotate_left
    · intro w'
      go_simp
      with_reducible rfl
    rotate_left
    · simp only [Act.put, List.setIfInBounds_toArray, List.set_cons_zero, List.set_cons_succ, i64_w, i32_w]
      rfl
    refine take_ (i := 13) (N := (some 39)) (v := ?_) (a' := ?_) #[true, true, true, true, true, true, true, true, true, true, true, true, true, true, false, false, false, false, false] rfl rfl (by kernel_rfl) (fun _ _ _ h => h) (Or.inl ⟨by rfl, ?_⟩) hHeld ?_ ?_
    rotate_left
    · rintro w' ⟨s0, s1, s2, s3⟩
      go_simp
      with_reducible rfl
    rotate_left
    · simp only [Act.put, List.setIfInBounds_toArray, List.set_cons_zero, List.set_cons_succ, i64_w, i32_w]
      rfl
    refine one_ (i := 14) (N := (some 40)) #[true, true, true, true, true, true, true, true, true, true, true, true, true, true, true, false, false, false, false] rfl rfl (by kernel_rfl) (by decide) (fun K hK => ?_)
    refine value_ (w1 := ?_) (v := ?_) (by rfl) rfl ?_ ?_
    rotate_left 2
    · go_simp
      constructor
      · rfl
      · rfl
    have HBA := Aside0.mk (HBZ.out.alloc (by omega) (.cells #[.int .i64 (q : Int), .int .i64 p0, .int .i64 p1] 2))
    refine hK.out _ _ (HX.out _ HBA.out) (fun hHeld => ?_)
    clear hK K
    refine norm_ (a' := ?_) ?_ ?_
    rotate_left
    · show Act.put _ (some 40) _ = _
      simp only [Act.put, List.setIfInBounds_toArray, List.set_cons_zero, List.set_cons_succ, i64_w, i32_w]
      rfl
    have hlt0 := Kd.R_lt HOZ.out
    have hlt1 := Kd.R_lt (Kd.S_R HSZ.out)
    have hza : Below wz.heap.size wz (wz.alloc (.cells #[.int .i64 (q : Int), .int .i64 p0, .int .i64 p1] 2)) := below_alloc (Below.refl _ wz) _
    have hbs : w1.heap.size ≤ wz.heap.size := by have := HUL.out.size; omega
    have HRA := Aside0.mk (show Kd.R (Kd.int .i64) 2 (wz.alloc (.cells #[.int .i64 (q : Int), .int .i64 p0, .int .i64 p1] 2)) w1.heap.size (fun k => k = wz.heap.size) (.slice (some ⟨wz.heap.size, 0, none⟩) 3 3) [(q : Int), p0, p1] from
     Kd.R_of_own (enc := Value.int .i64) (h1 := fun _ => rfl) ⟨by simp [encs], .inr ⟨wz.heap.size, 3, _, rfl, hbs, (MapKept.heap_alloc wz _).1, Nat.le_refl _, by decide, rfl, rfl⟩⟩ (fun k hk => by simp [Value.ownBlock] at hk; exact hk.symm))
    have HSA := Aside0.mk (Kd.S_below (Kd.S_mono (Kd.S_bound HSZ.out) (fun k hk => (⟨hk.1, by have := hk.2.2.1; omega⟩ : some k ≠ (Value.slice Av0 legs.length cv0).ownBlock ∧ ¬ k = wz.heap.size))) hza)
    have HOA := Aside0.mk (Kd.R_below HOZ.out hza)
    have HBW := Aside0.mk (below_step HUL.out HBA.out)
    have hsa : (wz.alloc (.cells #[.int .i64 (q : Int), .int .i64 p0, .int .i64 p1] 2)).heap.size = wz.heap.size + 1 := by simp
    generalize wz.alloc (.cells #[.int .i64 (q : Int), .int .i64 p0, .int .i64 p1] 2) = wa at HBA HRA HSA HOA HBW hsa hza hHeld ⊢
    rw [hsz] at HRA HSA
    refine one_ (i := 15) (N := (some 41)) #[true, true, true, true, true, true, true, true, true, true, true, true, true, true, true, true, false, false, false] rfl rfl (by kernel_rfl) (by decide) (fun K hK => ?_)
    refine value_ (w1 := ?_) (v := ?_) (by rfl) rfl ?_ ?_
    rotate_left 2
    · go_simp
      constructor
      · rfl
      · rfl
    refine hK.out _ _ (HX.out _ (HBA.out.alloc (by omega) _)) (fun hHeld => ?_)
    clear hK K
    refine norm_ (a' := ?_) ?_ ?_
    rotate_left
    · show Act.put _ (some 41) _ = _
      simp only [Act.put, List.setIfInBounds_toArray, List.set_cons_zero, List.set_cons_succ, i64_w, i32_w]
      rfl
    refine one_ (i := 16) (N := (some 42)) #[true, true, true, true, true, true, true, true, true, true, true, true, true, true, true, true, true, false, false] rfl rfl (by kernel_rfl) (by decide) (fun K hK => ?_)
    refine Kd.S_append_step (Kd.slice 2 (Kd.int .i64)) (w0 := w1) (W := wa) w1.heap.size ?hwq (.tmp 27) (.tmp 41) 26 22 (.slice none 0 0) 24 ?hoq Try.underlying26 info22 rfl (by decide) (by omega) (.slice Av1 forks.length cv1) forks [(q : Int), p0, p1] [.slice (some ⟨wr.heap.size, 0, none⟩) 3 3] (fun k => some k ≠ (Value.slice Av0 legs.length cv0).ownBlock) (fun k => k = wr.heap.size) ?hsq ?hxq ⟨_, rfl, HRA.out⟩ (fun k hk => ⟨fun h => by have := hlt0 k h.symm; omega, fun h => by have := hlt1 k h.symm; omega⟩) (fun k hk h => by have := hlt0 k h.symm; omega) HSA.out HBW.out HBW.out.size (by omega) ?_
    case hwq => rfl
    case hoq => rfl
    case hsq => rfl
    case hxq =>
     rw [hsa, hsz]
     rfl
    intro v2 wc ho hb hg hat
    have HOC := Aside0.mk ho
    have HBC := Aside0.mk hb
    have HGC := Aside0.mk hg
    clear ho hb hg
    obtain ⟨Av2, cv2, rfl⟩ := Kd.R_slice (Kd.S_R HOC.out)
    have hA := HX.out _ HBA.out
    have HXC := Aside0.mk (show wc.cell? ⟨w3.heap.size, 1, none⟩ = some (.slice Av1 forks.length cv1) ∧ wc.cell? ⟨w.heap.size, 0, none⟩ = some (.slice (some ad) legs.length c0) ∧ wc.cell? (ad.add j) = some (.int .i64 p0) ∧ wc.cell? ⟨ad.block, ad.off + (j + 1), none⟩ = some (.int .i64 p1) from
     ⟨HGC.out.cell hA.1 (fun h => by have := HLT1.out _ h.symm; exact Nat.lt_irrefl _ this),
      HGC.out.cell hA.2.1 (fun h => by have h1 := HBS1.out _ h.symm; have h2 := HGW.out; exact absurd h2 (Nat.not_lt.2 h1)),
      HGC.out.cell hA.2.2.1 (fun h => by rw [add_block] at h; have h1 : w1.heap.size ≤ ad.block := HBS1.out _ h.symm; have h2 := HGW.out; have h3 := HAD.out; exact absurd (Nat.lt_trans h3 h2) (Nat.not_lt.2 h1)),
      HGC.out.cell hA.2.2.2 (fun h => by have h1 : w1.heap.size ≤ ad.block := HBS1.out _ h.symm; have h2 := HGW.out; have h3 := HAD.out; exact absurd (Nat.lt_trans h3 h2) (Nat.not_lt.2 h1))⟩)
    clear hA
    refine hK.out _ _ HXC.out (fun hHeld => ?_)
    clear hK K
    refine norm_ (a' := ?_) ?_ ?_
    rotate_left
    · show Act.put _ (some 42) _ = _
      simp only [Act.put, List.setIfInBounds_toArray, List.set_cons_zero, List.set_cons_succ, i64_w, i32_w]
      rfl
    refine pure_ (i := 17) (N := (some 43)) (v := ?_) (a' := ?_) #[true, true, true, true, true, true, true, true, true, true, true, true, true, true, true, true, true, true, false] rfl rfl (by kernel_rfl) (fun _ _ _ h => h) (Or.inl ⟨by rfl, ?_⟩) ?_ ?_
    rotate_left
    · intro w'
      go_simp
      with_reducible rfl
    rotate_left
    · simp only [Act.put, List.setIfInBounds_toArray, List.set_cons_zero, List.set_cons_succ, i64_w, i32_w]
      rfl
    have hg7c : wc.heap[w3.heap.size]? = some (.cells #[.slice Av0 legs.length cv0, .slice Av1 forks.length cv1] 36 (0, 0)) := by
     have h7 := HG7.out
     have hl7 := (Array.getElem?_eq_some_iff.1 h7).1
     exact (HGC.out.block _ (by have := HBA.out.size; omega) (fun h => by have := HLT1.out _ h.symm; exact Nat.lt_irrefl _ this)).trans ((HBA.out.block _ hl7).trans h7)
    have HG7C := Aside0.mk hg7c
    have hs18 : wc.cell? ⟨w3.heap.size, 1, none⟩ = some (.slice Av1 forks.length cv1) := (blk_cell hg7c 1).trans rfl
    have hf18 := blk_frozen hg7c 1
    clear hg7c
    refine last_ (i := 18) (N := none) #[true, true, true, true, true, true, true, true, true, true, true, true, true, true, true, true, true, true, true] rfl rfl (by kernel_rfl) (by decide) (fun K hK => ?_)
    refine skip_ (w1 := ?_) (by rfl) rfl ?_ ?_
    rotate_left
    · go_simp
      rfl
    refine hK.out _ _ ?_
    clear hK K hs18 hf18
    refine done_ (by kernel_rfl) ?_
    have hown0 := Kd.own_of_R (enc := Value.int .i64) (h1 := fun _ => rfl) HOA.out
    have hap : ∀ k, some k = (Value.slice Av0 legs.length cv0).ownBlock → some k ≠ (Value.slice Av1 forks.length cv1).ownBlock := fun k h1 h2 => (Kd.S_R HSZ.out).1 k h2.symm h1
    have HOB : Aside0 (Kd.R (Kd.int .i64) 2 wc w1.heap.size (fun k => some k = (Value.slice Av0 legs.length cv0).ownBlock) (.slice Av0 legs.length cv0) legs) :=
     ⟨Kd.R_grown (Kd.R_of_own (enc := Value.int .i64) (h1 := fun _ => rfl) hown0 (fun k h => h.symm)) HGC.out hap⟩
    have HOD : Aside0 (Kd.R (Kd.int .i64) 2 (wc.setCell ⟨w3.heap.size, 1, none⟩ (.slice Av2 (forks.length + 1) cv2)) w1.heap.size (fun k => some k = (Value.slice Av0 legs.length cv0).ownBlock) (.slice Av0 legs.length cv0) legs) :=
     ⟨Kd.R_far HOB.out (p := ⟨w3.heap.size, 1, none⟩) (fun k hk e => by have h := HLT0.out k hk.symm; rw [e] at h; exact Nat.lt_irrefl _ h) _⟩
    have HSD := Aside0.mk (Kd.S_mono (Kd.S_far (p := ⟨w3.heap.size, 1, none⟩) (Kd.S_types HOC.out HG7C.out (by decide)) (fun _ hk => hk.2) (.slice Av2 (forks.length + 1) cv2)) (fun _ hk => hk.1))
    have HBD := Aside0.mk (HBC.out.setCell (p := ⟨w3.heap.size, 1, none⟩) HS3.out (.slice Av2 (forks.length + 1) cv2))
    have HG7D := Aside0.mk (show (wc.setCell ⟨w3.heap.size, 1, none⟩ (.slice Av2 (forks.length + 1) cv2)).heap[w3.heap.size]? = some (.cells #[.slice Av0 legs.length cv0, .slice Av2 (forks.length + 1) cv2] 36 (0, 0)) from blk_put (cs := #[.slice Av0 legs.length cv0, .slice Av1 forks.length cv1]) HG7C.out 1 _ rfl)
    clear HXC HOC HBC HGC HG7C HOA HSA HRA HBW HX HOB hown0
    generalize wc.setCell ⟨w3.heap.size, 1, none⟩ (.slice Av2 (forks.length + 1) cv2) = wd at HOD HSD HBD HG7D ⊢
    obtain ⟨g0, eg0, hb0, hlt0d⟩ := R_block HOD.out (by omega)
    subst eg0
    have hcd0 : wd.cell? ⟨w3.heap.size, 0, none⟩ = some (.slice (some ⟨g0, 0, none⟩) legs.length cv0) := (blk_cell HG7D.out 0).trans rfl
    have hbe := below_alloc (Below.refl wd.heap.size wd) (.cells #[.int .i64 (q : Int)] 2)
    have hve : (wd.alloc (.cells #[.int .i64 (q : Int)] 2)).cell? ⟨wd.heap.size, 0, none⟩ = some (.int .i64 (q : Int)) := (blk_cell (MapKept.heap_alloc wd _).1 0).trans rfl
    have HRP := Aside0.mk (replace_R g0 cv0 j legs (q : Int) wd.heap.size 1 _ (Kd.R_below HOD.out hbe) (by omega) (by omega) hve)
    have HBE := Aside0.mk hbe
    have HW4D := Aside0.mk ((HBD.out.block (w.heap.size + 1) (Array.getElem?_eq_some_iff.1 HW41.out).1).trans HW41.out)
    have hg0 := HLT0.out g0 rfl
    clear hbe hve
    go_wp2_with (first
     | (go_at_call 44; go_must (refine HRP.out.mono ?_); rintro e we ⟨rfl, hor, hfar, hos, htp, hou, hsz9⟩; have HOR := Aside0.mk hor; have hg7e := (hfar w3.heap.size (by omega)).trans ((HBE.out.block _ (Array.getElem?_eq_some_iff.1 HG7D.out).1).trans HG7D.out); have hg4e := (hfar (w.heap.size + 1) (by have h1 := (Array.getElem?_eq_some_iff.1 HW41.out).1; omega)).trans ((HBE.out.block _ (Array.getElem?_eq_some_iff.1 HW4D.out).1).trans HW4D.out); have hce0 : we.cell? ⟨w3.heap.size, 0, none⟩ = some (.slice (some ⟨g0, 0, none⟩) legs.length cv0) := (blk_cell hg7e 0).trans rfl; have hce1 : we.cell? ⟨w3.heap.size, 1, none⟩ = some (.slice Av2 (forks.length + 1) cv2) := (blk_cell hg7e 1).trans rfl; have hfe0 := blk_frozen hg7e 0; have hce4 : we.cell? ⟨w.heap.size + 1, 0, none⟩ = some (.slice none 0 0) := (blk_cell hg4e 0).trans rfl; have hce5 : we.cell? ⟨w.heap.size + 1, 1, none⟩ = some (.slice none 0 0) := (blk_cell hg4e 1).trans rfl; have hg4s := (Below.heap_setCell we ⟨w3.heap.size, 0, none⟩ (.slice (some ⟨g0, 0, none⟩) (legs.length - 1) cv0) (w.heap.size + 1) (by show w.heap.size + 1 ≠ w3.heap.size; have h1 := (Array.getElem?_eq_some_iff.1 HW41.out).1; have h2 := HS3.out; omega)).trans hg4e; have hcs4 : (we.setCell ⟨w3.heap.size, 0, none⟩ (.slice (some ⟨g0, 0, none⟩) (legs.length - 1) cv0)).cell? ⟨w.heap.size + 1, 0, none⟩ = some (.slice none 0 0) := (blk_cell hg4s 0).trans rfl; have hcs5 : (we.setCell ⟨w3.heap.size, 0, none⟩ (.slice (some ⟨g0, 0, none⟩) (legs.length - 1) cv0)).cell? ⟨w.heap.size + 1, 1, none⟩ = some (.slice none 0 0) := (blk_cell hg4s 1).trans rfl; have hfs4 := blk_frozen hg4s 0; have hfs5 := blk_frozen hg4s 1; have HG4S := Aside0.mk hg4s; clear hg4s; have hfe4 := blk_frozen hg4e 0; have hfe5 := blk_frozen hg4e 1; have HG7E := Aside0.mk hg7e; have HG4E := Aside0.mk hg4e; have HFAR := Aside0.mk hfar; clear hor hg7e hg4e hfar)
     | go_in)
    have hw1 : w.heap.size + 1 < w1.heap.size := (Array.getElem?_eq_some_iff.1 HW41.out).1
    have h3 := HS3.out
    have hne : ∀ k, k = w3.heap.size ∨ k = w.heap.size + 1 → k ≠ g0 := fun k hk => by omega
    refine bodyPost_ret (results_ct rfl _ _ (w.heap.size + 1) 36 #[.slice (some ⟨g0, 0, none⟩) (legs.length - 1) cv0, .slice Av2 (forks.length + 1) cv2] (0, 0) _ rfl (by refine blk_put (cs := #[.slice (some ⟨g0, 0, none⟩) (legs.length - 1) cv0, .slice none 0 0]) ?_ 1 _ rfl; refine blk_put (cs := #[.slice none 0 0, .slice none 0 0]) ?_ 0 _ rfl; exact HG4S.out) Try.underlying36 rfl (by kernel_rfl)) rfl ?_
    refine ⟨_, _, by rfl, ?_, ?_, ?_⟩
    · refine Kd.R_mono (Kd.R_lower (Kd.R_far (Kd.R_far (Kd.R_far HOR.out (p := ⟨w3.heap.size, 0, none⟩) (fun k hk e => ?_) _) (p := ⟨w.heap.size + 1, 0, none⟩) (fun k hk e => ?_) _) (p := ⟨w.heap.size + 1, 1, none⟩) (fun k hk e => ?_) _) HB1.out.size) (fun _ _ => trivial)
      all_goals (simp [Value.ownBlock] at hk e; omega)
    · have e9 : (forks ++ [[(q : Int), p0, p1]]).length = forks.length + 1 := by simp
      have hs0 := HSD.out
      rw [e9] at hs0
      have hs2 := Kd.S_step (Kd.S_below hs0 HBE.out) (fun k ho _ => HFAR.out k (fun e => ho (by subst e; rfl)))
      have hs3 := Kd.S_types (Kd.S_types hs2 HG7E.out (by decide)) HG4E.out (by decide)
      have hs4 := Kd.S_far (Kd.S_far (Kd.S_far hs3 (p := ⟨w3.heap.size, 0, none⟩) (fun k hk => hk.1.2) (.slice (some ⟨g0, 0, none⟩) (legs.length - 1) cv0)) (p := ⟨w.heap.size + 1, 0, none⟩) (fun k hk => hk.2) (.slice (some ⟨g0, 0, none⟩) (legs.length - 1) cv0)) (p := ⟨w.heap.size + 1, 1, none⟩) (fun k hk => hk.2) (.slice Av2 (forks.length + 1) cv2)
      unfold forkedForks
      rw [← HP0.out, ← HP1.out]
      exact Kd.S_mono (Kd.S_lower hs4 HB1.out.size) (fun k hk => hk.1.1)
    · have hwe := below_step (below_step HB1.out HBD.out) HBE.out
      have hwf : Below w.heap.size w we := ⟨hos.trans hwe.os, htp.trans hwe.tape, hou.trans hwe.output, by rw [hsz9]; exact hwe.size, fun k hk => (HFAR.out k (by omega)).trans (hwe.block k hk)⟩
      exact ((hwf.setCell (p := ⟨w3.heap.size, 0, none⟩) (by show w.heap.size ≤ w3.heap.size; omega) _).setCell (p := ⟨w.heap.size + 1, 0, none⟩) (Nat.le_succ _) _).setCell (p := ⟨w.heap.size + 1, 1, none⟩) (Nat.le_succ _) _
end Go.Proofs.Ytibahnmljafkdaa.P
