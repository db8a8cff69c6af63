/- 'IsWeb' tells whether legs and forks are a web. -/
import Derived.Test.YtibahnmljafkdaaCdPartsOf
namespace Go.Proofs.Ytibahnmljafkdaa.P
open Go.RowKit Go.Maps Go.Proofs.YtibahnmljafkdaaW.PrintWords Go.Proofs.YtibahnmljafkdaaW.PrintLast Go.Proofs.YtibahnmljafkdaaW.PrintMore
set_option linter.unusedVariables false
set_option linter.unusedSimpArgs false
def ixOf {α : Type} (p : α → Bool) (l : List α) : Int := match l.findIdx? p with | some i => (i : Int) | none => -1
theorem ixOf_ge {α : Type} (p : α → Bool) (l : List α) : decide (0 ≤ ixOf p l) = l.any p := by
 unfold ixOf
 cases h : l.findIdx? p with
 | none =>
  have := List.findIdx?_eq_none_iff.1 h
  have h2 : l.any p = false := by
   rw [List.any_eq_false]; intro x hx; simp [this x hx]
  rw [h2]; simp
 | some i =>
  obtain ⟨h1, h2, _⟩ := List.findIdx?_eq_some_iff_getElem.1 h
  have h3 : l.any p = true := List.any_eq_true.2 ⟨l[i], List.getElem_mem h1, h2⟩
  rw [h3]; simp
theorem ixOf_at {α : Type} (p : α → Bool) (l : List α) (d : α) (k : Nat) (hk : k < l.length) (hp : p (l.getD k d) = true) (hno : ∀ j, j < k → p (l.getD j d) = false) : ixOf p l = k := by
 have : l.findIdx? p = some k := by
  refine List.findIdx?_eq_some_iff_getElem.2 ⟨hk, ?_, fun j hj => ?_⟩
  · simpa [List.getD_eq_getElem?_getD, List.getElem?_eq_getElem hk] using hp
  · have hj2 : j < l.length := by omega
    have := hno j hj
    simpa [List.getD_eq_getElem?_getD, List.getElem?_eq_getElem hj2] using this
 simp [ixOf, this]
theorem ixOf_none {α : Type} (p : α → Bool) (l : List α) (d : α) (hno : ∀ j, j < l.length → p (l.getD j d) = false) : ixOf p l = -1 := by
 have : l.findIdx? p = none := by
  refine List.findIdx?_eq_none_iff.2 fun x hx => ?_
  obtain ⟨j, hj, rfl⟩ := List.getElem_of_mem hx
  have := hno j hj
  simpa [List.getD_eq_getElem?_getD, List.getElem?_eq_getElem hj] using this
 simp [ixOf, this]
def not3 (f : List Int) : Bool := (f.length : Int) != 3
set_option maxRecDepth 100000 in
set_option maxHeartbeats 1000000 in
theorem indexNot3 (A1 : Option Addr) (c1 : Nat) (forks : List (List Int)) (w : World) (hr1 : Kd.C (Kd.slice 2 (Kd.int .i64)) w A1 forks.length forks) :
 Calls Try.prog 92 #[.slice A1 forks.length c1, .func (.func 72) #[] #[]] w fun e w' => e = .returned (.int .i64 (ixOf not3 forks)) ∧ Drawn0 w w' := by
 have HR1 := Aside0.mk hr1
 have hlen : forks.length ≤ 9223372036854775807 := hr1.2.1
 clear hr1
 go_enter Try.func92, Try.ntmps92
 go_wp2
 go_loopw [8] (fun i wr => ∃ k : Nat, k ≤ forks.length ∧ i = .int .i64 k ∧ Aside0 (∀ j, j < k → not3 (rdR forks (j : Int)) = false) ∧ Aside0 (Drawn0 w wr)) (fun i _ => forks.length - (intOf i).toNat)
 case atStart => exact ⟨0, Nat.zero_le _, rfl, ⟨fun j hj => by omega⟩, ⟨⟨0, by rfl⟩⟩⟩
 case round =>
  obtain ⟨k, hk, rfl, HN, HD⟩ := hrel
  obtain ⟨⟨nd, rfl⟩⟩ := HD
  by_cases hlt : k < forks.length
  · obtain ⟨ad, Af, cf, e0, hx, hlf, hif⟩ := atR HR1.out (k : Int) (by omega) (by omega)
    cases e0
    rw [Int.toNat_natCast] at hx
    obtain ⟨f, hf⟩ : ∃ f, f = rdR forks (k : Int) := ⟨_, rfl⟩
    rw [← hf] at hx hif hlf
    have HF := Aside0.mk hf
    clear hf hif hlf
    cases hb : not3 f with
    | true =>
     have hb1 : ((f.length : Int) != 3) = true := hb
     have HBB := Aside0.mk hb
     clear hb
     go_wp2
     go_ret
     exact ⟨by rw [ixOf_at not3 forks [] k hlt (by have := HBB.out; rw [HF.out] at this; simpa [rdR] using this) (fun j hj => by have := HN.out j hj; simpa [rdR] using this)]; rfl, ⟨_, rfl⟩⟩
    | false =>
     have hb1 : ((f.length : Int) != 3) = false := hb
     have HBB := Aside0.mk hb
     clear hb
     go_wp2
     go_roundw
     case rel => exact ⟨k + 1, by omega, by go_num, ⟨fun j hj => by
      by_cases hjk : j = k
      · subst hjk; rw [← HF.out]; exact HBB.out
      · exact HN.out j (by omega)⟩, ⟨⟨_, rfl⟩⟩⟩
     case measure => simp [intOf]; omega
  · obtain rfl : k = forks.length := by omega
    go_wp2
    go_ret
    exact ⟨by rw [ixOf_none not3 forks [] (fun j hj => by have := HN.out j hj; simpa [rdR] using this)]; rfl, ⟨_, rfl⟩⟩
set_option maxRecDepth 100000 in
theorem containsNot3 (A1 : Option Addr) (c1 : Nat) (forks : List (List Int)) (w : World) (hr1 : Kd.C (Kd.slice 2 (Kd.int .i64)) w A1 forks.length forks) :
 Calls Try.prog 71 #[.slice A1 forks.length c1, .func (.func 72) #[] #[]] w fun e w' => e = .returned (.bool (forks.any not3)) ∧ Drawn0 w w' := by
 have HR1 := Aside0.mk hr1
 have HX := Aside0.mk (ixOf_ge not3 forks)
 clear hr1
 go_enter Try.func71, Try.ntmps71
 go_wp2_with (first
  | (go_at_call 92; refine (indexNot3 A1 c1 forks _ HR1.out).mono ?_; rintro e w' ⟨rfl, ⟨nd, rfl⟩⟩)
  | go_in)
 go_ret
 exact ⟨by rw [← HX.out]; rfl, ⟨_, rfl⟩⟩
set_option maxRecDepth 100000 in
set_option maxHeartbeats 1000000 in
theorem indexGe (A1 : Option Addr) (c1 : Nat) (out : List Int) (g : Nat) (A0 : Option Addr) (c0 n : Nat) (B : Value) (w : World) (hr1 : Kd.C (Kd.int .i64) w A1 out.length out) (hw : w.heap[g]? = some (.cells #[.slice A0 n c0, B] 36 (0, 0))) :
 Calls Try.prog 93 #[.slice A1 out.length c1, .func (.func 75) #[] #[.pointer (some ⟨g, 0, none⟩)]] w fun e w' => e = .returned (.int .i64 (ixOf (fun x => decide ((n : Int) ≤ x)) out)) ∧ Drawn0 w w' := by
 have hu36 := Try.underlying36
 have HR1 := Aside0.mk hr1
 have hlen : out.length ≤ 9223372036854775807 := hr1.2.1
 have hcz0 : w.cell? ⟨g, 0, none⟩ = some (.slice A0 n c0) := (blk_cell hw 0).trans rfl
 clear hr1 hw
 go_enter Try.func93, Try.ntmps93
 go_wp2
 go_loopw [8] (fun i wr => ∃ k : Nat, k ≤ out.length ∧ i = .int .i64 k ∧ Aside0 (∀ j, j < k → decide ((n : Int) ≤ rd out (j : Int)) = false) ∧ Aside0 (Drawn0 w wr)) (fun i _ => out.length - (intOf i).toNat)
 case atStart => exact ⟨0, Nat.zero_le _, rfl, ⟨fun j hj => by omega⟩, ⟨⟨0, by rfl⟩⟩⟩
 case round =>
  obtain ⟨k, hk, rfl, HN, HD⟩ := hrel
  obtain ⟨⟨nd, rfl⟩⟩ := HD
  by_cases hlt : k < out.length
  · obtain ⟨ad, e0, hx⟩ := Kd.at_int HR1.out (k : Int) (by omega) (by omega)
    cases e0
    rw [Int.toNat_natCast] at hx
    obtain ⟨f, hf⟩ : ∃ f, f = rd out (k : Int) := ⟨_, rfl⟩
    rw [← hf] at hx
    have HF := Aside0.mk hf
    clear hf
    cases hb : decide ((n : Int) ≤ f) with
    | true =>
     have HBB := Aside0.mk hb
     go_wp2
     go_ret
     exact ⟨by rw [ixOf_at (fun x => decide ((n : Int) ≤ x)) out 0 k hlt (by have := HBB.out; rw [HF.out] at this; simpa [rd] using this) (fun j hj => by have := HN.out j hj; simpa [rd] using this)]; rfl, ⟨_, rfl⟩⟩
    | false =>
     have HBB := Aside0.mk hb
     go_wp2
     go_roundw
     case rel => exact ⟨k + 1, by omega, by go_num, ⟨fun j hj => by
      by_cases hjk : j = k
      · subst hjk; rw [← HF.out]; exact HBB.out
      · exact HN.out j (by omega)⟩, ⟨⟨_, rfl⟩⟩⟩
     case measure => simp [intOf]; omega
  · obtain rfl : k = out.length := by omega
    go_wp2
    go_ret
    exact ⟨by rw [ixOf_none (fun x => decide ((n : Int) ≤ x)) out 0 (fun j hj => by have := HN.out j hj; simpa [rd] using this)]; rfl, ⟨_, rfl⟩⟩
set_option maxRecDepth 100000 in
theorem containsGe (A1 : Option Addr) (c1 : Nat) (out : List Int) (g : Nat) (A0 : Option Addr) (c0 n : Nat) (B : Value) (w : World) (hr1 : Kd.C (Kd.int .i64) w A1 out.length out) (hw : w.heap[g]? = some (.cells #[.slice A0 n c0, B] 36 (0, 0))) :
 Calls Try.prog 73 #[.slice A1 out.length c1, .func (.func 75) #[] #[.pointer (some ⟨g, 0, none⟩)]] w fun e w' => e = .returned (.bool (out.any fun x => decide ((n : Int) ≤ x))) ∧ Drawn0 w w' := by
 have HR1 := Aside0.mk hr1
 have HW := Aside0.mk hw
 have HX := Aside0.mk (ixOf_ge (fun x => decide ((n : Int) ≤ x)) out)
 clear hr1 hw
 go_enter Try.func73, Try.ntmps73
 go_wp2_with (first
  | (go_at_call 93; refine (indexGe A1 c1 out g A0 c0 n B _ HR1.out HW.out).mono ?_; rintro e w' ⟨rfl, ⟨nd, rfl⟩⟩)
  | go_in)
 go_ret
 exact ⟨by rw [← HX.out]; rfl, ⟨_, rfl⟩⟩
def okEnd (p : Int × List Int) : Bool := decide (0 ≤ p.1) && decide (p.1 ≤ 1000) && decide (p.2.length = 2)
def isWebB (legs : List Int) (forks : List (List Int)) : Bool :=
 decide (legs.length + forks.length ≤ 8) && !forks.any not3 && (webM legs forks).all okEnd && !(partsC (legs.length + forks.length) (edgesM (webM legs forks))).any fun x => decide ((legs.length : Int) ≤ x)
set_option maxRecDepth 100000 in
set_option maxHeartbeats 2000000 in
theorem isWeb_any (A0 : Option Addr) (c0 : Nat) (legs : List Int) (A1 : Option Addr) (c1 : Nat) (forks : List (List Int)) (w : World)
 (hr0 : Kd.C (Kd.int .i64) w A0 legs.length legs) (hc0 : legs.length ≤ c0) (hr1 : Kd.C (Kd.slice 2 (Kd.int .i64)) w A1 forks.length forks) (hc1 : forks.length ≤ c1) (hl0 : legs.length ≤ 1000000000000) (hl1 : forks.length ≤ 1000000000000) :
 Calls Try.prog 32 #[.agg #[.slice A0 legs.length c0, .slice A1 forks.length c1]] w fun e w' => e = .returned (.bool (isWebB legs forks)) ∧ Below w.heap.size w w' := by
 have hu36 := Try.underlying36
 have HR0 := Aside0.mk hr0
 have HR1 := Aside0.mk hr1
 have HC0 := Aside0.mk hc0
 have HC1 := Aside0.mk hc1
 have HB0 := Aside0.mk (below_alloc (Below.refl w.heap.size w) (.cells #[.slice A0 legs.length c0, .slice A1 forks.length c1] 36))
 have HW0 := Aside0.mk (show (w.alloc (.cells #[.slice A0 legs.length c0, .slice A1 forks.length c1] 36)).heap[w.heap.size]? = some (.cells #[.slice A0 legs.length c0, .slice A1 forks.length c1] 36 (0, 0)) from (MapKept.heap_alloc w _).1)
 clear hr0 hr1 hc0 hc1
 by_cases h8 : legs.length + forks.length ≤ 8
 · have h8b : decide ((8 : Int) < ((legs.length : Int) + (forks.length : Int))) = false := by simp; omega
   have H8 := Aside0.mk h8
   have h80 : legs.length ≤ 8 := by omega
   have h81 : forks.length ≤ 8 := by omega
   clear h8
   cases h3 : forks.any not3 with
   | true =>
    have HRES := Aside0.mk (show isWebB legs forks = false by simp [isWebB, h3])
    have H3 := Aside0.mk h3
    clear h3
    go_enter Try.func32, Try.ntmps32
    go_wp2_with (first
     | (go_at_call 54; refine (nodes_any w.heap.size A0 c0 legs A1 c1 forks _ HW0.out hl0 hl1).mono ?_; rintro e w' ⟨rfl, ⟨nd, rfl⟩⟩)
     | (go_at_call 71; refine (containsNot3 A1 c1 forks _ (Kd.C_below HR1.out (pw_below_drewN HB0.out _))).mono ?_; rintro e w' ⟨rfl, ⟨nd2, rfl⟩⟩; rw [H3.out])
     | go_in)
    go_ret
    exact ⟨by rw [HRES.out]; rfl, pw_below_drewN HB0.out _⟩
   | false =>
    have H3 := Aside0.mk h3
    have hf3 : ∀ f ∈ forks, f.length ≤ 1000 := by
     intro f hf
     have := List.any_eq_false.1 h3 f hf
     simp [not3] at this
     omega
    have HF3 := Aside0.mk hf3
    have HDIS := Aside0.mk (webM_distinct legs forks)
    clear h3 hf3
    go_enter Try.func32, Try.ntmps32
    go_wp2_with (first
     | (go_at_call 54; refine (nodes_any w.heap.size A0 c0 legs A1 c1 forks _ HW0.out hl0 hl1).mono ?_; rintro e w' ⟨rfl, ⟨nd, rfl⟩⟩)
     | (go_at_call 71; refine (containsNot3 A1 c1 forks _ (Kd.C_below HR1.out (pw_below_drewN HB0.out _))).mono ?_; rintro e w' ⟨rfl, ⟨nd2, rfl⟩⟩; rw [H3.out])
     | (go_at_call 43; go_must (refine (stands_any w.heap.size A0 c0 legs A1 c1 forks _ (by exact HW0.out) (Kd.C_below HR0.out (pw_below_drewN HB0.out _)) HC0.out (Kd.C_below HR1.out (pw_below_drewN HB0.out _)) HC1.out (by omega) (by omega) HF3.out).mono ?_); rintro e w1 ⟨b, kv, rfl, hb1, hm1, he1, hbl1⟩; have HM1 := Aside0.mk hm1; have HE1 := Aside0.mk he1; have HB1 := Aside0.mk (below_step (pw_below_drewN HB0.out _) hbl1); have HW1 := Aside0.mk ((hbl1.block w.heap.size (by simp)).trans HW0.out); have HBL := Aside0.mk hbl1.size; clear hm1 he1 hbl1)
     | (at_range; refine wpList_range_kv rfl _ 66 rfl 2 68 Try.underlying66 (Value.int .i64) b kv rfl HM1.out ?_; intro w2 hr2 hg2 hs2; have HR2 := Aside0.mk hr2; have HE2 := Aside0.mk (HE1.out.below (below_of_grown hg2)); have HB2 := Aside0.mk (below_step HB1.out (below_of_grown hg2)); have HW2 := Aside0.mk (((below_of_grown hg2).block w.heap.size (by have := HB1.out.size; simp at hb1; have := HM1.out.lt; omega)).trans HW1.out); have HBR := Aside0.mk (HM1.out.lt); clear hr2 hg2 hs2)
     | go_in)
    go_frame
    have hbr : b < w1.heap.size := HBR.out
    have hwb : w.heap.size < b := by simp at hb1; omega
    have HD0 := Aside0.mk (mapKV.distinct HM1.out)
    change Aside0 (Ends w2 _ kv (webM legs forks)) at HE2
    have HMW := Aside0.mk (rfl : webM legs forks = webM legs forks)
    generalize hM : webM legs forks = M at HE2 HDIS HMW
    have HMM := Aside0.mk hM
    clear HM1 HE1 HB1 HW1 HBR HBL HMW hM
    generalize w1.heap.size = R at *
    generalize hBS : (w.alloc (Obj.cells #[Value.slice A0 legs.length c0, Value.slice A1 forks.length c1] 36)).drewN (nd + nd2) = wq at HE2
    clear hBS
    go_loopg [14] kv.length (fun n _ wx => ∃ (left : List (Int × Value)), Aside0 (left.length = n) ∧ Aside0 (rangeKV wx (Value.int .i64) b R kv left) ∧ Aside0 (Ends wx wq.heap.size kv M) ∧ Aside0 (wx.heap[w.heap.size]? = some (.cells #[.slice A0 legs.length c0, .slice A1 forks.length c1] 36 (0, 0))) ∧ Aside0 (∀ p ∈ M, okEnd p = true ∨ ∃ r ∈ left, r.1 = p.1) ∧ Aside0 (Below w.heap.size w wx))
    case atStart => exact ⟨kv, ⟨rfl⟩, HR2, HE2, HW2, ⟨fun p hp => by
     have hk := kvGet_keys HE2.out.keys p.1
     rw [kvGet_of_mem HDIS.out hp] at hk
     cases hg : kvGet kv p.1 with
     | none => rw [hg] at hk; cases hk
     | some u => exact .inr ⟨_, mem_of_kvGet hg, rfl⟩⟩, HB2⟩
    case round =>
     obtain ⟨left, HN, HRG, HE3, HW3, HOK, HB3⟩ := hrel
     clear HR2 HE2 HB2 HW2
     go_wp2_with (first
      | (at_next; refine wpList_next_kv rfl _ rfl 2 (Value.int .i64) intEnc_inj b R _ _ (by omega) rfl HRG.out ?_ ?_)
      | go_in)
     · intro hl
       have HLE := Aside0.mk hl
       have hall : ∀ p ∈ webM legs forks, okEnd p = true := fun p hp => by
        rw [HMM.out] at hp
        rcases HOK.out p hp with h | ⟨r, hr, _⟩
        · exact h
        · rw [hl] at hr; cases hr
       have HALL := Aside0.mk hall
       have HV := Aside0.mk (fun p (hp : p ∈ webM legs forks) => show p.2.length = 2 by have := hall p hp; simp [okEnd] at this; exact this.2)
       clear hl hall
       have HRES := Aside0.mk (show isWebB legs forks = !(partsC (legs.length + forks.length) (edgesM (webM legs forks))).any (fun x => decide ((legs.length : Int) ≤ x)) by
        unfold isWebB
        rw [H3.out, decide_eq_true H8.out, List.all_eq_true.2 HALL.out]
        simp)
       have hgs : w.heap.size < wr.heap.size := (Array.getElem?_eq_some_iff.1 HW3.out).1
       go_wp2_with (first
        | (go_at_call 74; go_must (refine (partsOf_any w.heap.size A0 c0 legs A1 c1 forks _ HW3.out (Kd.C_below HR0.out HB3.out) HC0.out (Kd.C_below HR1.out HB3.out) HC1.out (by omega) (by omega) HF3.out HV.out).mono ?_); rintro e w4 ⟨v4, rfl, ho4, hb4⟩; obtain ⟨A4, c4, rfl, ho4⟩ := R_open ho4 rfl; have HO4 := Aside0.mk ho4; have HB4 := Aside0.mk (below_step HB3.out hb4); have HW4 := Aside0.mk ((hb4.block w.heap.size hgs).trans HW3.out); clear ho4 hb4)
        | (go_at_call 73; go_must (refine (containsGe A4 c4 _ w.heap.size A0 c0 legs.length (.slice A1 forks.length c1) _ (by obtain ⟨_, _, he, _, hc⟩ := Kd.R_reads HO4.out; injection he with h1 _ _; subst h1; exact hc) HW4.out).mono ?_); rintro e w' ⟨rfl, ⟨nd3, rfl⟩⟩)
        | go_in)
       go_ret
       exact ⟨by rw [HRES.out]; rfl, pw_below_drewN HB4.out _⟩
     · intro x v w3 hpl hpk hr3 hg4 hs4 hen
       have hgv : kvGet kv x = some v := kvGet_of_mem HD0.out hpk
       obtain ⟨l, hgm⟩ : ∃ l, kvGet M x = some l := by
        have hk := kvGet_keys HE3.out.keys x
        rw [hgv] at hk
        cases hm : kvGet M x with
        | none => rw [hm] at hk; cases hk
        | some l => exact ⟨l, rfl⟩
       have hmem := mem_of_kvGet hgm
       have hrow := iter_keep (HE3.out.rows x v l hgv hgm) HRG.out hg4
       obtain ⟨Av, cv, rfl, hrow⟩ := R_open hrow (n := l.length) rfl
       have HMEM := Aside0.mk hmem
       have HPL := Aside0.mk hpl
       have HRG4 := Aside0.mk hr3
       have HE4 := Aside0.mk (show Ends w3 wq.heap.size kv M from ⟨HE3.out.keys, fun e' v' l' h1 h2 => iter_keep (HE3.out.rows e' v' l' h1 h2) HRG.out hg4, HE3.out.apart⟩)
       have HB4 := Aside0.mk (HB3.out.grown hg4 HB3.out.size (fun j hj => by cases hj; omega))
       have HW4 := Aside0.mk ((hg4.block w.heap.size (Array.getElem?_eq_some_iff.1 HW3.out).1 (by simp; omega)).trans HW3.out)
       clear hgv hgm hmem hrow hpl hr3 hg4 hs4 hpk
       cases hok : okEnd (x, l) with
       | true =>
        have h1 := hok
        simp only [okEnd, Bool.and_eq_true, decide_eq_true_eq] at h1
        have hx0 : decide (0 ≤ x) = true := by simp; exact h1.1.1
        have hx1 : decide (x ≤ 1000) = true := by simp; exact h1.1.2
        have hl2 : ((l.length : Int) != 2) = false := by simp; omega
        have HOKX := Aside0.mk hok
        clear hok h1
        go_wp2
        go_roundg (left.filter fun q => !decide (q.1 = x)).length
        case measure => exact Nat.lt_of_lt_of_le (len_filter_lt (p := (x, Value.slice Av l.length cv)) HPL.out) (Nat.le_of_eq HN.out)
        case rel => exact ⟨_, ⟨rfl⟩, HRG4, HE4, HW4, ⟨fun p hp => by
         rcases HOK.out p hp with h | ⟨r, hr, her⟩
         · exact .inl h
         · by_cases hrx : r.1 = x
           · have e1 := kvGet_of_mem HDIS.out hp
             have e2 := kvGet_of_mem HDIS.out HMEM.out
             simp only at e2
             rw [← her, hrx, e2] at e1
             refine .inl ?_
             have : p = (x, l) := Prod.ext (by rw [← her, hrx]) (Option.some.inj e1).symm
             rw [this]; exact HOKX.out
           · exact .inr ⟨r, List.mem_filter.2 ⟨hr, by simpa using hrx⟩, her⟩⟩, HB4⟩
       | false =>
        have HRES := Aside0.mk (show isWebB legs forks = false by
         have : (webM legs forks).all okEnd = false := List.all_eq_false.2 ⟨(x, l), by rw [HMM.out]; exact HMEM.out, by simp [hok]⟩
         simp [isWebB, this])
        by_cases hx0 : 0 ≤ x
        · by_cases hx1 : x ≤ 1000
          · have hl2 : ((l.length : Int) != 2) = true := by
             simp only [okEnd, decide_eq_true hx0, decide_eq_true hx1, Bool.true_and, decide_eq_false_iff_not] at hok
             simp; omega
            have hx0' := decide_eq_true hx0
            have hx1' := decide_eq_true hx1
            clear hok hx0 hx1
            go_wp2
            go_ret
            exact ⟨by rw [HRES.out]; rfl, HB4.out⟩
          · have hx0' := decide_eq_true hx0
            have hx1' := decide_eq_false hx1
            clear hok hx0 hx1
            go_wp2
            go_ret
            exact ⟨by rw [HRES.out]; rfl, HB4.out⟩
        · have hx0' := decide_eq_false hx0
          clear hok hx0
          go_wp2
          go_ret
          exact ⟨by rw [HRES.out]; rfl, HB4.out⟩
 · have h8b : decide ((8 : Int) < ((legs.length : Int) + (forks.length : Int))) = true := by simp; omega
   have HRES := Aside0.mk (show isWebB legs forks = false by simp [isWebB, h8])
   have H8 := Aside0.mk h8
   clear h8
   go_enter Try.func32, Try.ntmps32
   go_wp2_with (first
    | (go_at_call 54; refine (nodes_any w.heap.size A0 c0 legs A1 c1 forks _ HW0.out hl0 hl1).mono ?_; rintro e w' ⟨rfl, ⟨nd, rfl⟩⟩)
    | go_in)
   go_ret
   exact ⟨by rw [HRES.out]; rfl, pw_below_drewN HB0.out _⟩
def impl_IsWeb.f (l0_0 : List Int) (l0_1 : List (List Int)) : Option Bool := if l0_0.length ≤ 1000000000000 ∧ l0_1.length ≤ 1000000000000 then some (isWebB l0_0 l0_1) else none
theorem impl_IsWeb.calls (A0_0 : Option Addr) (c0_0 : Nat) (l0_0 : List Int) (A0_1 : Option Addr) (c0_1 : Nat) (l0_1 : List (List Int)) (r : Bool) (w : World) (hr0_0 : Kd.C (Kd.int .i64) w A0_0 l0_0.length l0_0) (hc0_0 : l0_0.length ≤ c0_0) (hr0_1 : Kd.C (Kd.slice 2 (Kd.int .i64)) w A0_1 l0_1.length l0_1) (hc0_1 : l0_1.length ≤ c0_1) (h : impl_IsWeb.f l0_0 l0_1 = some r) :
 Calls Try.prog 32 #[.agg #[.slice A0_0 l0_0.length c0_0, .slice A0_1 l0_1.length c0_1]] w fun e w' => e = .returned (.bool r) ∧ Below w.heap.size w w' := by
 unfold impl_IsWeb.f at h
 split at h
 · rename_i hl
   obtain rfl := Option.some.inj h
   exact isWeb_any A0_0 c0_0 l0_0 A0_1 c0_1 l0_1 w hr0_0 hc0_0 hr0_1 hc0_1 hl.1 hl.2
 · cases h
end Go.Proofs.Ytibahnmljafkdaa.P
