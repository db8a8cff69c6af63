/- 'partsOf' tells for all legs and forks of a web the first ones of their parts. -/
import Derived.Test.YtibahnmljafkdaaCdStands
import Derived.Test.YtibahnmljafkdaaCdPartsP
namespace Go.Proofs.Ytibahnmljafkdaa.P
open Go.RowKit Go.Maps Go.Proofs.YtibahnmljafkdaaW.PrintWords Go.Proofs.YtibahnmljafkdaaW.PrintLast Go.Proofs.YtibahnmljafkdaaW.PrintMore
attribute [local go_sem] max2_int min2_int max_two min_two max_three min_three max_four min_four
set_option linter.unusedVariables false
set_option linter.unusedSimpArgs false
def edgeM (p : Int × List Int) : Nat × Nat := ((p.2.getD 0 0).toNat, (p.2.getD 1 0).toNat)
def edgesM (m : List (Int × List Int)) : List (Nat × Nat) := m.map edgeM
def webM (legs : List Int) (forks : List (List Int)) : List (Int × List Int) := endsOf (endsL legs forks) []
theorem endsL_lt (legs : List Int) (forks : List (List Int)) : ∀ q ∈ endsL legs forks, 0 ≤ q.2 ∧ q.2 < ((legs.length + forks.length : Nat) : Int) := by
 intro q hq
 rcases List.mem_append.1 hq with hq | hq
 · obtain ⟨p, hp, rfl⟩ := List.mem_map.1 hq
   obtain ⟨_, hlt⟩ := List.getElem?_eq_some_iff.1 (List.mem_zipIdx_iff_getElem?.1 hp)
   have := (List.getElem?_eq_some_iff.1 (List.mem_zipIdx_iff_getElem?.1 hp)).1
   simp only
   omega
 · obtain ⟨p, hp, hq⟩ := List.mem_flatMap.1 hq
   obtain ⟨e, _, rfl⟩ := List.mem_map.1 hq
   have := (List.getElem?_eq_some_iff.1 (List.mem_zipIdx_iff_getElem?.1 hp)).1
   simp only
   omega
theorem endsOf_mem (l : List (Int × Int)) : ∀ (m : List (Int × List Int)) (P : Int → Prop), (∀ p ∈ m, ∀ x ∈ p.2, P x) → (∀ q ∈ l, P q.2) → ∀ p ∈ endsOf l m, ∀ x ∈ p.2, P x := by
 induction l with
 | nil => intro m P hm _; exact hm
 | cons q l ih =>
  intro m P hm hl
  refine ih (endsStep m q) P (fun p hp x hx => ?_) (fun r hr => hl r (List.mem_cons_of_mem _ hr))
  rcases kvPut_mem m _ _ p hp with rfl | hp
  · simp only [List.mem_append, List.mem_singleton] at hx
    rcases hx with hx | rfl
    · cases hg : kvGet m q.1 with
      | none => rw [hg] at hx; cases hx
      | some u => rw [hg] at hx; exact hm _ (mem_of_kvGet hg) x hx
    · exact hl q List.mem_cons_self
  · exact hm p hp x hx
theorem endsOf_distinct (l : List (Int × Int)) : ∀ (m : List (Int × List Int)), m.Pairwise (fun a b => a.1 ≠ b.1) → (endsOf l m).Pairwise (fun a b => a.1 ≠ b.1) := by
 induction l with
 | nil => intro m h; exact h
 | cons q l ih => intro m h; exact ih _ (kvPut_keys m _ _ h)
theorem webM_distinct (legs : List Int) (forks : List (List Int)) : (webM legs forks).Pairwise (fun a b => a.1 ≠ b.1) := endsOf_distinct _ _ List.Pairwise.nil
theorem webM_lt (legs : List Int) (forks : List (List Int)) : ∀ p ∈ webM legs forks, ∀ x ∈ p.2, 0 ≤ x ∧ x < ((legs.length + forks.length : Nat) : Int) :=
 endsOf_mem _ [] (fun x => 0 ≤ x ∧ x < ((legs.length + forks.length : Nat) : Int)) (by simp) (endsL_lt legs forks)
theorem edgesM_ok (legs : List Int) (forks : List (List Int)) (hv : ∀ p ∈ webM legs forks, p.2.length = 2) : EdgesOk (legs.length + forks.length) (edgesM (webM legs forks)) := by
 intro q hq
 obtain ⟨p, hp, rfl⟩ := List.mem_map.1 hq
 have h2 := hv p hp
 have hlt := webM_lt legs forks p hp
 obtain ⟨e, l⟩ := p
 match l, h2 with
 | [a, b], _ =>
  have ha := hlt a (by simp)
  have hb := hlt b (by simp)
  simp only [edgeM, List.getD_cons_zero, List.getD_cons_succ]
  omega
def fillL (n k : Nat) : List Int := (List.range n).map fun (i : Nat) => if i < k then (i : Int) else 0
theorem fillL_len (n k : Nat) : (fillL n k).length = n := by simp [fillL]
theorem fillL_zero (n : Nat) : fillL n 0 = List.replicate n 0 := by
 refine List.ext_getElem (by simp [fillL]) fun i h1 h2 => ?_
 simp [fillL]
theorem fillL_full (n : Nat) : fillL n n = ups n := by
 refine List.ext_getElem (by simp [fillL, ups]) fun i h1 h2 => ?_
 simp [fillL] at h1
 simp [fillL, ups, h1]
theorem fillL_set (n k : Nat) (h : k < n) : (fillL n k).set k (k : Int) = fillL n (k + 1) := by
 refine List.ext_getElem (by simp [fillL]) fun i h1 h2 => ?_
 rw [List.getElem_set]
 by_cases hi : k = i
 · subst hi; simp [fillL]
 · simp only [if_neg hi, fillL, List.getElem_map, List.getElem_range]
   by_cases h3 : i < k
   · simp [h3, Nat.lt_succ_of_lt h3]
   · have : ¬ i < k + 1 := by omega
     simp [h3, this]
theorem Ends.far {w : World} {base : Nat} {kv : List (Int × Value)} {m : List (Int × List Int)} (h : Ends w base kv m) {p : Addr} (hp : p.block < base) (u : Value) : Ends (w.setCell p u) base kv m :=
 ⟨h.keys, fun e v l h1 h2 => Kd.R_mono (Kd.R_far (Kd.R_bound (h.rows e v l h1 h2)) (fun k hk => by have := hk.2.1; omega) u) (fun _ hk => hk.1), h.apart⟩
section
variable {ops : Array Oper} {rest : List Oper} {o : Oper} {a : Act} {Q : Exit → Act → World → Prop} {w W : World}
theorem makeN (N : Tmp) (hd : o.dst = some N) (hgd : o.guard = none) (x y : Operand) (ho : o.op = .makeSlice 68 x y) (n : Int) (hx : a.eval x = .int .i64 n) (hy : a.eval y = .int .i64 n) (h0 : 0 ≤ n) (hl : n ≤ 1000000000)
 (HB : Below w.heap.size w W)
 (h : ∀ v1 w1, Kd.R (Kd.int .i64) 3 w1 w.heap.size (fun _ => True) v1 (List.replicate n.toNat 0) → Below w.heap.size w w1 → W.grownBy w1 none → (∃ b, v1.ownBlock = some b ∧ W.heap.size ≤ b) → wpList Try.prog ops Q rest (a.put o.dst v1) w1) :
 wpList Try.prog ops Q (o :: rest) a W :=
 Kd.R_make (Kd.int .i64) (w0 := w) w.heap.size 3 hgd hd 68 x y ho n hx hy Try.underlying68 (.int .i64 0) 8 info3 rfl (by decide) (by omega) 0 (ok := fun _ => True) (okp := fun _ => False) rfl (fun _ h => h.elim) trivial h0 (by omega) HB HB.size h
end
set_option maxRecDepth 100000 in
theorem nodes_any (g : Nat) (A0 : Option Addr) (c0 : Nat) (legs : List Int) (A1 : Option Addr) (c1 : Nat) (forks : List (List Int)) (w : World) (hw : w.heap[g]? = some (.cells #[.slice A0 legs.length c0, .slice A1 forks.length c1] 36 (0, 0)))
 (hl0 : legs.length ≤ 1000000000000) (hl1 : forks.length ≤ 1000000000000) :
 Calls Try.prog 54 #[.pointer (some ⟨g, 0, none⟩)] w fun e w' => e = .returned (.int .i64 ((legs.length + forks.length : Nat) : Int)) ∧ Drawn0 w w' := by
 have hu36 := Try.underlying36
 have hcz0 : w.cell? ⟨g, 0, none⟩ = some (.slice A0 legs.length c0) := (blk_cell hw 0).trans rfl
 have hcz1 : w.cell? ⟨g, 1, none⟩ = some (.slice A1 forks.length c1) := (blk_cell hw 1).trans rfl
 clear hw
 go_enter Try.func54, Try.ntmps54
 go_wp2
 go_quiet (fail)
 go_wp2
 go_ret
 exact ⟨by simp; first | rfl | skip, ⟨_, rfl⟩⟩
set_option maxRecDepth 100000 in
set_option maxHeartbeats 2000000 in
theorem partsOf_any (g : Nat) (A0 : Option Addr) (c0 : Nat) (legs : List Int) (A1 : Option Addr) (c1 : Nat) (forks : List (List Int)) (w : World) (hw : w.heap[g]? = some (.cells #[.slice A0 legs.length c0, .slice A1 forks.length c1] 36 (0, 0)))
 (hr0 : Kd.C (Kd.int .i64) w A0 legs.length legs) (hc0 : legs.length ≤ c0) (hr1 : Kd.C (Kd.slice 2 (Kd.int .i64)) w A1 forks.length forks) (hc1 : forks.length ≤ c1) (hl0 : legs.length ≤ 1000) (hl1 : forks.length ≤ 1000) (hl2 : ∀ f ∈ forks, f.length ≤ 1000)
 (hv : ∀ p ∈ webM legs forks, p.2.length = 2) :
 Calls Try.prog 74 #[.pointer (some ⟨g, 0, none⟩)] w fun e w' => ∃ v, e = .returned v ∧ Kd.R (Kd.int .i64) 3 w' w.heap.size (fun _ => True) v (partsC (legs.length + forks.length) (edgesM (webM legs forks))) ∧ Below w.heap.size w w' := by
 have hnodes := fun W hW => nodes_any g A0 c0 legs A1 c1 forks W hW (by omega) (by omega)
 have hu36 := Try.underlying36
 have hE := edgesM_ok legs forks hv
 have HE := Aside0.mk hE
 have HV := Aside0.mk hv
 have HR0 := Aside0.mk hr0
 have HR1 := Aside0.mk hr1
 have HC0 := Aside0.mk hc0
 have HC1 := Aside0.mk hc1
 have HW := Aside0.mk hw
 have HL2 := Aside0.mk hl2
 have hgl : g < w.heap.size := (Array.getElem?_eq_some_iff.1 hw).1
 have hcz0 : w.cell? ⟨g, 0, none⟩ = some (.slice A0 legs.length c0) := (blk_cell HW.out 0).trans rfl
 have hcz1 : w.cell? ⟨g, 1, none⟩ = some (.slice A1 forks.length c1) := (blk_cell HW.out 1).trans rfl
 have hS := fun W (hb : Below w.heap.size w W) => stands_any g A0 c0 legs A1 c1 forks W ((hb.block g hgl).trans hw) (Kd.C_below hr0 hb) hc0 (Kd.C_below hr1 hb) hc1 hl0 hl1 hl2
 have HS := Aside0.mk hS
 have hlt := webM_lt legs forks
 have hdis := webM_distinct legs forks
 have HNO := Aside0.mk hnodes
 obtain ⟨N, hN⟩ : ∃ N, legs.length + forks.length = N := ⟨_, rfl⟩
 rw [hN] at HE HNO hlt ⊢
 have hN2 : N ≤ 2000 := by omega
 have HLT := Aside0.mk hlt
 have HD := Aside0.mk hdis
 change Aside0 (∀ W, Below w.heap.size w W → Calls Try.prog 43 #[.pointer (some ⟨g, 0, none⟩)] W fun e w' => ∃ b kv, e = .returned (.map (some b)) ∧ W.heap.size ≤ b ∧ mapKV w' (Value.int .i64) b kv ∧ Ends w' W.heap.size kv (webM legs forks) ∧ Below W.heap.size W w') at HS
 generalize webM legs forks = M at *
 clear hr0 hr1 hc0 hc1 hw hl2 hv hE hS hnodes hN hlt hdis HR0 HR1 HC0 HC1 HL2 hcz0 hcz1
 go_enter Try.func74, Try.ntmps74
 go_wp2_with (first
  | ((with_reducible refine gate_dst (N := 10) rfl ?_); go_must (refine makeN (w := w) 10 rfl rfl _ _ rfl (N : Int) rfl rfl (by omega) (by omega) (by repeat (first | exact Below.refl _ _ | apply pw_below_drewN | apply below_drew1)) ?_); intro v1 w1 ho hb hg hnew; rw [Int.toNat_natCast, ← fillL_zero] at ho; obtain ⟨A3, c3, rfl, ho⟩ := R_open ho (fillL_len _ _); have HO := Aside0.mk ho; have HB := Aside0.mk hb; clear ho hb hg hnew)
  | (go_at_call 54; refine (HNO.out _ HW.out).mono ?_; rintro e w' ⟨rfl, ⟨nd, rfl⟩⟩)
  | go_in)
 go_loopw [13] (fun i wr => ∃ k : Nat, k ≤ N ∧ i = .int .i64 k ∧ Aside0 (Kd.R (Kd.int .i64) 3 wr w.heap.size (fun _ => True) (.slice A3 N c3) (fillL N k)) ∧ Aside0 (Below w.heap.size w wr)) (fun i _ => N - (intOf i).toNat)
 case atStart => exact ⟨0, Nat.zero_le _, rfl, HO, HB⟩
 case round =>
  obtain ⟨k, hk, rfl, HO, HB⟩ := hrel
  by_cases hlt : k < N
  · obtain ⟨g3, e3, hg3, hg3'⟩ := R_block HO.out (by omega)
    cases e3
    have hxf := Kd.R_cell (d := 0) (enc := Value.int .i64) (h1 := fun _ => rfl) (by rw [fillL_len]; exact HO.out) (k : Int) (by omega) (by rw [fillL_len]; omega)
    have hx := hxf.1
    have hf := hxf.2
    rw [Int.toNat_natCast] at hx hf
    clear hxf
    go_wp2
    go_roundw
    case rel => exact ⟨k + 1, by omega, by go_num, ⟨by have h1 := (Kd.R_putg HO.out (k : Int) (k : Int)).1; rw [Int.toNat_natCast, fillL_set N k hlt] at h1; exact h1⟩, ⟨HB.out.setCell hg3 _⟩⟩
    case measure => simp [intOf]; omega
  · obtain rfl : k = N := by omega
    have HO2 : Aside0 (Kd.R (Kd.int .i64) 3 wr w.heap.size (fun _ => True) (.slice A3 k c3) (ups k)) := ⟨by rw [← fillL_full]; exact HO.out⟩
    clear HO
    go_wp2
    obtain ⟨wo, rfl⟩ : ∃ wo : World, wo = wr := ⟨_, rfl⟩
    go_loopw [23] (fun i wr => ∃ (p : Nat) (cur : List Int), p ≤ k ∧ i = .int .i64 p ∧ Aside0 (Kd.R (Kd.int .i64) 3 wr w.heap.size (fun _ => True) (.slice A3 k c3) cur) ∧ Aside0 (Lab k (edgesM M) p cur) ∧ Aside0 (Below w.heap.size w wr)) (fun i _ => k - (intOf i).toNat)
    case atStart => exact ⟨0, ups k, Nat.zero_le _, rfl, HO2, ⟨Lab.start k _⟩, HB⟩
    case round =>
     obtain ⟨p, cur, hp, rfl, HO, HLB, HB⟩ := hrel
     clear HO2
     by_cases hlt : p < k
     · obtain ⟨g3, e3, hg3, hg3'⟩ := R_block HO.out (by omega)
       cases e3
       go_wp2_with (first
        | (go_at_call 43; refine (HS.out _ HB.out).mono ?_; rintro e w1 ⟨b, kv, rfl, hb1, hm1, he1, hbl1⟩; have HM1 := Aside0.mk hm1; have HE1 := Aside0.mk he1; have HB1 := Aside0.mk (below_step HB.out hbl1); have HO1 := Aside0.mk (Kd.R_below HO.out hbl1); have HBL := Aside0.mk hbl1.size; clear hm1 he1 hbl1)
        | (at_range; refine wpList_range_kv rfl _ 66 rfl 2 68 Try.underlying66 (Value.int .i64) b kv rfl HM1.out ?_; intro w2 hr2 hg2 hs2; have HR2 := Aside0.mk hr2; have HE2 := Aside0.mk (HE1.out.below (below_of_grown hg2)); have HB2 := Aside0.mk (below_step HB1.out (below_of_grown hg2)); have HO2 := Aside0.mk (Kd.R_below HO1.out (below_of_grown hg2)); have HBR := Aside0.mk (HM1.out.lt); clear hr2 hg2 hs2)
        | go_in)
       go_frame
       have hbr : b < w1.heap.size := HBR.out
       have hgw : g3 < w1.heap.size := by have := HBL.out; omega
       have hgb : g3 < b := by have := hb1; omega
       have HD0 := Aside0.mk (mapKV.distinct HM1.out)
       clear HM1 HE1 HB1 HO1 HBR HBL
       have hgr : g3 < wr.heap.size := hg3'
       generalize w1.heap.size = R at *
       generalize hBS : wr.heap.size = B at *
       have HSZ := Aside0.mk hBS
       clear hBS
       go_loopg [28] kv.length (fun n _ wx => ∃ (left : List (Int × Value)) (now : List Int), Aside0 (left.length = n) ∧ Aside0 (rangeKV wx (Value.int .i64) b R kv left) ∧ Aside0 (Ends wx B kv M) ∧ Aside0 (Kd.R (Kd.int .i64) 3 wx w.heap.size (fun _ => True) (.slice (some ⟨g3, 0, none⟩) k c3) now) ∧ Aside0 (Mid k (edgesM M) cur (fun q => ∃ p ∈ M, edgeM p = q ∧ ∀ r ∈ left, r.1 ≠ p.1) now) ∧ Aside0 (Below w.heap.size w wx))
       case atStart => exact ⟨kv, cur, ⟨rfl⟩, HR2, HE2, HO2, ⟨by
        have h0 := Mid.start HLB.out
        exact ⟨h0.len, h0.own, h0.le, fun q hq => by
         obtain ⟨p', hp', _, hno⟩ := hq
         have hk := kvGet_keys HE2.out.keys p'.1
         rw [kvGet_of_mem HD.out hp'] at hk
         cases hg : kvGet kv p'.1 with
         | none => rw [hg] at hk; cases hk
         | some u => exact absurd rfl (hno _ (mem_of_kvGet hg))⟩⟩, HB2⟩
       case round =>
        obtain ⟨left, now, HN, HRG, HE3, HO3, HMID, HB3⟩ := hrel
        clear HR2 HE2 HO2 HB2
        go_wp2_with (first
         | (at_next; refine wpList_next_kv rfl _ rfl 2 (Value.int .i64) intEnc_inj b R _ _ (by omega) rfl HRG.out ?_ ?_)
         | go_in)
        · intro hl
          have HLE := Aside0.mk hl
          clear hl
          go_wp2
          go_roundw
          case rel => exact ⟨p + 1, now, by omega, by go_num, HO3, ⟨HLB.out.pass HE.out HMID.out (fun q hq => by
           obtain ⟨p', hp', rfl⟩ := List.mem_map.1 hq
           exact ⟨p', hp', rfl, fun r hr => by rw [HLE.out] at hr; cases hr⟩)⟩, HB3⟩
          case measure => simp [intOf]; omega
        · intro x v w3 hpl hpk hr3 hg4 hs4 hen
          have hgv : kvGet kv x = some v := kvGet_of_mem HD0.out hpk
          obtain ⟨l, hgm⟩ : ∃ l, kvGet M x = some l := by
           have hk := kvGet_keys HE3.out.keys x
           rw [hgv] at hk
           cases hm : kvGet M x with
           | none => rw [hm] at hk; cases hk
           | some l => exact ⟨l, rfl⟩
          have hmem := mem_of_kvGet hgm
          have hl2 := HV.out _ hmem
          have hlt2 := HLT.out _ hmem
          have hrow := iter_keep (HE3.out.rows x v l hgv hgm) HRG.out hg4
          match l, hl2, hgm, hmem, hrow, hlt2 with
          | [i0, i1], _, hgm, hmem, hrow, hlt2 =>
           obtain ⟨a, ea⟩ : ∃ a : Nat, i0 = a := ⟨i0.toNat, by have := (hlt2 i0 (by simp)).1; omega⟩
           obtain ⟨c, ec⟩ : ∃ c : Nat, i1 = c := ⟨i1.toNat, by have := (hlt2 i1 (by simp)).1; omega⟩
           subst ea
           subst ec
           have hak : a < k := by have := (hlt2 (a : Int) (by simp)).2; omega
           have hck : c < k := by have := (hlt2 (c : Int) (by simp)).2; omega
           have hedge : (a, c) ∈ edgesM M := List.mem_map.2 ⟨_, hmem, by simp [edgeM]⟩
           obtain ⟨Av, cv, rfl, hrow⟩ := R_open hrow (n := 2) rfl
           obtain ⟨gv, eav, hgv1, hgv2⟩ := R_block hrow (by omega)
           cases eav
           have h0 := (Kd.R_cell (d := 0) (enc := Value.int .i64) (h1 := fun _ => rfl) hrow 0 (by omega) (by simp)).1
           have h1 := (Kd.R_cell (d := 0) (enc := Value.int .i64) (h1 := fun _ => rfl) hrow 1 (by omega) (by simp)).1
           have h0' : w3.cell? ⟨gv, 0, none⟩ = some (.int .i64 (a : Int)) := h0
           have h1' : w3.cell? ⟨gv, 1, none⟩ = some (.int .i64 (c : Int)) := h1
           clear h0 h1
           have hnl := HMID.out.len
           have HO4 := Aside0.mk (show Kd.R (Kd.int .i64) 3 w3 w.heap.size (fun _ => True) (.slice (some ⟨g3, 0, none⟩) k c3) now from intRow_keep HO3.out hg4 (.inr (by simp [Value.ownBlock]; omega)))
           have HNL := Aside0.mk hnl
           have hxa := Kd.R_cell (d := 0) (enc := Value.int .i64) (h1 := fun _ => rfl) (by rw [HNL.out]; exact HO4.out) (a : Int) (by omega) (by rw [HNL.out]; omega)
           have hxc := Kd.R_cell (d := 0) (enc := Value.int .i64) (h1 := fun _ => rfl) (by rw [HNL.out]; exact HO4.out) (c : Int) (by omega) (by rw [HNL.out]; omega)
           rw [Int.toNat_natCast] at hxa hxc
           obtain ⟨va, eva⟩ : ∃ va, va = rd now (a : Int) := ⟨_, rfl⟩
           obtain ⟨vc, evc⟩ : ∃ vc, vc = rd now (c : Int) := ⟨_, rfl⟩
           have hxa1 : w3.cell? ⟨g3, a, none⟩ = some (.int .i64 va) := by rw [eva]; exact hxa.1
           have hxc1 : w3.cell? ⟨g3, c, none⟩ = some (.int .i64 vc) := by rw [evc]; exact hxc.1
           have hfa := hxa.2
           have hfc := hxc.2
           have EVA := Aside0.mk eva
           have EVC := Aside0.mk evc
           have HROW := Aside0.mk hrow
           have HMEM := Aside0.mk hmem
           have HEDGE := Aside0.mk hedge
           have HRG4 := Aside0.mk hr3
           have HPL := Aside0.mk hpl
           have HE4 := Aside0.mk (show Ends w3 B kv M from ⟨HE3.out.keys, fun e' v' l' h1 h2 => iter_keep (HE3.out.rows e' v' l' h1 h2) HRG.out hg4, HE3.out.apart⟩)
           have HB4 := Aside0.mk (HB3.out.grown hg4 HB3.out.size (fun j hj => by cases hj; have := HB.out.size; omega))
           clear hxa hxc eva evc hrow hmem hedge hr3 hpl hnl hpk hg4 hs4 hgv hgm hl2 hlt2
           by_cases hc : vc < va
           · have HMN := Aside0.mk (show min va vc = vc by omega)
             go_wp2
             go_quiet (fail)
             go_wp2
             generalize hwz : w3.drewN nq = wz
             have HE5 := Aside0.mk (show Ends wz B kv M from by rw [← hwz]; exact HE4.out.below (pw_below_drewN (Below.refl _ _) _))
             have HB5 := Aside0.mk (show Below w.heap.size w wz from by rw [← hwz]; exact pw_below_drewN HB4.out _)
             have HO5 := Aside0.mk (show Kd.R (Kd.int .i64) 3 wz w.heap.size (fun _ => True) (.slice (some ⟨g3, 0, none⟩) k c3) now from by rw [← hwz]; exact Kd.R_drewN HO4.out _)
             have HR5 := Aside0.mk (show Kd.R (Kd.int .i64) 3 wz B (fun _ => True) (.slice (some ⟨gv, 0, none⟩) 2 cv) [(a : Int), (c : Int)] from by rw [← hwz]; exact Kd.R_drewN HROW.out _)
             have HRG5 := Aside0.mk (show rangeKV wz (Value.int .i64) b R kv (left.filter fun q => !decide (q.1 = x)) from by rw [← hwz]; exact HRG4.out)
             clear HE4 HB4 HO4 HROW HRG4 hwz h0' h1' hxa1 hxc1 hfa hfc
             have HF := Aside0.mk (fun (W : World) (h : Kd.R (Kd.int .i64) 3 W B (fun _ => True) (.slice (some ⟨gv, 0, none⟩) 2 cv) [(a : Int), (c : Int)]) => show W.cell? ⟨gv, 0, none⟩ = some (.int .i64 (a : Int)) ∧ W.cell? ⟨gv, 1, none⟩ = some (.int .i64 (c : Int)) from ⟨(Kd.R_cell (d := 0) (enc := Value.int .i64) (h1 := fun _ => rfl) h 0 (by omega) (by simp)).1, (Kd.R_cell (d := 0) (enc := Value.int .i64) (h1 := fun _ => rfl) h 1 (by omega) (by simp)).1⟩)
             have HC5 := Aside0.mk (fun (W : World) (l : List Int) (i : Nat) (hi : i < k) (hl : l.length = k) (h : Kd.R (Kd.int .i64) 3 W w.heap.size (fun _ => True) (.slice (some ⟨g3, 0, none⟩) k c3) l) => show W.cell? ⟨g3, i, none⟩ = some (.int .i64 (rd l (i : Int))) ∧ W.frozen? ⟨g3, i, none⟩ = false from by
              have := Kd.R_cell (d := 0) (enc := Value.int .i64) (h1 := fun _ => rfl) (by rw [hl]; exact h) (i : Int) (by omega) (by rw [hl]; omega)
              rwa [Int.toNat_natCast] at this)
             refine start_ (n := 14) (S := fun w' => w'.cell? ⟨gv, 0, none⟩ = some (.int .i64 (a : Int)) ∧ w'.cell? ⟨gv, 1, none⟩ = some (.int .i64 (c : Int))) (ds := [13]) #[false, false, false, false, false, false, false, false, false, false, false, false, false, false] (by kernel_rfl) rfl rfl (HF.out _ (Kd.R_drew HR5.out)) (fun hHeld => ?_)
             have HE6 := Aside0.mk (HE5.out.below (below_drew1 (Below.refl _ _)))
             have HB6 := Aside0.mk (HB5.out.drew)
             have HO6 := Aside0.mk (Kd.R_drew HO5.out)
             have HR6 := Aside0.mk (Kd.R_drew HR5.out)
             have HRG6 := Aside0.mk (show rangeKV wz.drew (Value.int .i64) b R kv (left.filter fun q => !decide (q.1 = x)) from HRG5.out)
             clear HE5 HB5 HO5 HR5 HRG5
             generalize wz.drew = wy at HE6 HB6 HO6 HR6 HRG6 hHeld ⊢
             refine pure_ (i := 0) (N := (some 45)) (v := ?_) (a' := ?_) #[true, false, false, false, false, false, false, false, false, false, false, false, false, false] rfl rfl (by kernel_rfl) (fun _ _ _ h => h) (Or.inl ⟨by rfl, ?_⟩) ?_ ?_
             rotate_left
             · intro w'
               go_simp
               with_reducible rfl
             rotate_left
             · simp only [Act.put, List.setIfInBounds_toArray, List.set_cons_zero, List.set_cons_succ, i64_w, i32_w]
               rfl
             refine pure_ (i := 1) (N := (some 46)) (v := ?_) (a' := ?_) #[true, true, false, false, false, false, false, false, false, false, false, false, false, false] rfl rfl (by kernel_rfl) (fun _ _ _ h => h) (Or.inl ⟨by rfl, ?_⟩) ?_ ?_
             rotate_left
             · intro w'
               go_simp
               with_reducible rfl
             rotate_left
             · simp only [Act.put, List.setIfInBounds_toArray, List.set_cons_zero, List.set_cons_succ, i64_w, i32_w]
               rfl
             refine pure_ (i := 2) (N := (some 47)) (v := ?_) (a' := ?_) #[true, true, true, false, false, false, false, false, false, false, false, false, false, false] rfl rfl (by kernel_rfl) (fun _ _ _ h => h) (Or.inl ⟨by rfl, ?_⟩) ?_ ?_
             rotate_left
             · intro w'
               go_simp
               with_reducible rfl
             rotate_left
             · simp only [Act.put, List.setIfInBounds_toArray, List.set_cons_zero, List.set_cons_succ, i64_w, i32_w]
               rfl
             refine take_ (i := 3) (N := (some 48)) (v := ?_) (a' := ?_) #[true, true, true, true, false, false, false, false, false, false, false, false, false, false] rfl rfl (by kernel_rfl) (fun _ _ _ h => h) (Or.inl ⟨by rfl, ?_⟩) hHeld ?_ ?_
             rotate_left
             · rintro w' ⟨s0, s1⟩
               go_simp
               with_reducible rfl
             rotate_left
             · simp only [Act.put, List.setIfInBounds_toArray, List.set_cons_zero, List.set_cons_succ, i64_w, i32_w]
               rfl
             refine pure_ (i := 4) (N := (some 49)) (v := ?_) (a' := ?_) #[true, true, true, true, true, false, false, false, false, false, false, false, false, false] rfl rfl (by kernel_rfl) (fun _ _ _ h => h) (Or.inl ⟨by rfl, ?_⟩) ?_ ?_
             rotate_left
             · intro w'
               go_simp
               with_reducible rfl
             rotate_left
             · simp only [Act.put, List.setIfInBounds_toArray, List.set_cons_zero, List.set_cons_succ, i64_w, i32_w]
               rfl
             refine pure_ (i := 5) (N := (some 50)) (v := ?_) (a' := ?_) #[true, true, true, true, true, true, false, false, false, false, false, false, false, false] rfl rfl (by kernel_rfl) (fun _ _ _ h => h) (Or.inl ⟨by rfl, ?_⟩) ?_ ?_
             rotate_left
             · intro w'
               go_simp
               with_reducible rfl
             rotate_left
             · simp only [Act.put, List.setIfInBounds_toArray, List.set_cons_zero, List.set_cons_succ, i64_w, i32_w]
               rfl
             refine pure_ (i := 6) (N := (some 51)) (v := ?_) (a' := ?_) #[true, true, true, true, true, true, true, false, false, false, false, false, false, false] rfl rfl (by kernel_rfl) (fun _ _ _ h => h) (Or.inl ⟨by rfl, ?_⟩) ?_ ?_
             rotate_left
             · intro w'
               go_simp
               with_reducible rfl
             rotate_left
             · simp only [Act.put, List.setIfInBounds_toArray, List.set_cons_zero, List.set_cons_succ, i64_w, i32_w]
               rfl
             refine take_ (i := 7) (N := (some 52)) (v := ?_) (a' := ?_) #[true, true, true, true, true, true, true, true, false, false, false, false, false, false] rfl rfl (by kernel_rfl) (fun _ _ _ h => h) (Or.inl ⟨by rfl, ?_⟩) hHeld ?_ ?_
             rotate_left
             · rintro w' ⟨s0, s1⟩
               go_simp
               with_reducible rfl
             rotate_left
             · simp only [Act.put, List.setIfInBounds_toArray, List.set_cons_zero, List.set_cons_succ, i64_w, i32_w]
               rfl
             refine pure_ (i := 8) (N := (some 53)) (v := ?_) (a' := ?_) #[true, true, true, true, true, true, true, true, true, false, false, false, false, false] rfl rfl (by kernel_rfl) (fun _ _ _ h => h) (Or.inl ⟨by rfl, ?_⟩) ?_ ?_
             rotate_left
             · intro w'
               go_simp
               with_reducible rfl
             rotate_left
             · simp only [Act.put, List.setIfInBounds_toArray, List.set_cons_zero, List.set_cons_succ, i64_w, i32_w]
               rfl
             refine pure_ (i := 9) (N := (some 54)) (v := ?_) (a' := ?_) #[true, true, true, true, true, true, true, true, true, true, false, false, false, false] rfl rfl (by kernel_rfl) (fun _ _ _ h => h) (Or.inl ⟨by rfl, ?_⟩) ?_ ?_
             rotate_left
             · intro w'
               go_simp
               with_reducible rfl
             rotate_left
             · simp only [Act.put, List.setIfInBounds_toArray, List.set_cons_zero, List.set_cons_succ, i64_w, i32_w]
               rfl
             refine pure_ (i := 10) (N := (some 55)) (v := ?_) (a' := ?_) #[true, true, true, true, true, true, true, true, true, true, true, false, false, false] rfl rfl (by kernel_rfl) (fun _ _ _ h => h) (Or.inl ⟨by rfl, ?_⟩) ?_ ?_
             rotate_left
             · intro w'
               go_simp
               with_reducible rfl
             rotate_left
             · simp only [Act.put, List.setIfInBounds_toArray, List.set_cons_zero, List.set_cons_succ, i64_w, i32_w]
               rfl
             have hs11 := (HC5.out _ now a hak HNL.out HO6.out).1
             have hf11 := (HC5.out _ now a hak HNL.out HO6.out).2
             refine one_ (i := 11) (N := none) #[true, true, true, true, true, true, true, true, true, true, true, true, false, false] rfl rfl (by kernel_rfl) (by decide) (fun K hK => ?_)
             refine skip_ (w1 := ?_) (by rfl) rfl ?_ ?_
             rotate_left
             · go_simp
               rfl
             clear hs11 hf11
             have hp1 := Kd.R_putg HO6.out (a : Int) vc
             rw [Int.toNat_natCast] at hp1
             have HO7 := Aside0.mk hp1.1
             have HE7 := Aside0.mk (HE6.out.far (p := ⟨g3, a, none⟩) hgr (.int .i64 vc))
             have HB7 := Aside0.mk (HB6.out.setCell (p := ⟨g3, a, none⟩) hg3 (.int .i64 vc))
             have HR7 := Aside0.mk (Kd.R_mono (Kd.R_far (Kd.R_bound HR6.out) (p := ⟨g3, a, none⟩) (fun j hj => by have := hj.2.1; show j ≠ g3; omega) (.int .i64 vc)) (fun _ hj => hj.1))
             have HRG7 := Aside0.mk (HRG6.out.move (w' := wy.setCell ⟨g3, a, none⟩ (.int .i64 vc)) (Below.heap_setCell _ _ _ _ (by show b ≠ g3; omega)) (Below.heap_setCell _ _ _ _ (by show R ≠ g3; omega)))
             clear hp1 HO6 HE6 HB6 HR6 HRG6
             refine hK.out _ _ (HF.out _ HR7.out) (fun hHeld => ?_)
             clear hK K
             generalize wy.setCell ⟨g3, a, none⟩ (.int .i64 vc) = wu at HO7 HE7 HB7 HR7 HRG7 hHeld ⊢
             refine pure_ (i := 12) (N := (some 56)) (v := ?_) (a' := ?_) #[true, true, true, true, true, true, true, true, true, true, true, true, true, false] rfl rfl (by kernel_rfl) (fun _ _ _ h => h) (Or.inl ⟨by rfl, ?_⟩) ?_ ?_
             rotate_left
             · intro w'
               go_simp
               with_reducible rfl
             rotate_left
             · simp only [Act.put, List.setIfInBounds_toArray, List.set_cons_zero, List.set_cons_succ, i64_w, i32_w]
               rfl
             refine last_ (i := 13) (N := none) #[true, true, true, true, true, true, true, true, true, true, true, true, true, true] rfl rfl (by kernel_rfl) (by decide) (fun K hK => ?_)
             have hlen7 : (now.set a vc).length = k := by rw [List.length_set]; exact HNL.out
             have HL7 := Aside0.mk hlen7
             have hs13 := (HC5.out _ (now.set a vc) c hck HL7.out HO7.out).1
             have hf13 := (HC5.out _ (now.set a vc) c hck HL7.out HO7.out).2
             clear hlen7
             refine skip_ (w1 := ?_) (by rfl) rfl ?_ ?_
             rotate_left
             · go_simp
               rfl
             clear hs13 hf13
             have hp2 := Kd.R_putg HO7.out (c : Int) vc
             rw [Int.toNat_natCast] at hp2
             have HO8 := Aside0.mk hp2.1
             have HE8 := Aside0.mk (HE7.out.far (p := ⟨g3, c, none⟩) hgr (.int .i64 vc))
             have HB8 := Aside0.mk (HB7.out.setCell (p := ⟨g3, c, none⟩) hg3 (.int .i64 vc))
             have HRG8 := Aside0.mk (HRG7.out.move (w' := wu.setCell ⟨g3, c, none⟩ (.int .i64 vc)) (Below.heap_setCell _ _ _ _ (by show b ≠ g3; omega)) (Below.heap_setCell _ _ _ _ (by show R ≠ g3; omega)))
             clear hp2 HO7 HE7 HB7 HR7 HRG7
             refine hK.out _ _ ?_
             clear hK K
             generalize wu.setCell ⟨g3, c, none⟩ (.int .i64 vc) = wv at HO8 HE8 HB8 HRG8 ⊢
             refine done_ (by kernel_rfl) ?_
             go_wp2
             go_roundg (left.filter fun q => !decide (q.1 = x)).length
             case measure => exact Nat.lt_of_lt_of_le (len_filter_lt (p := (x, Value.slice (some ⟨gv, 0, none⟩) 2 cv)) HPL.out) (Nat.le_of_eq HN.out)
             case rel => exact ⟨_, _, ⟨rfl⟩, HRG8, HE8, HO8, ⟨by
              have hmin : vc = min (rd now (a : Int)) (rd now (c : Int)) := by rw [← EVA.out, ← EVC.out]; exact HMN.out.symm
              rw [hmin]
              refine HMID.out.step HE.out HEDGE.out (fun q hq => ?_)
              obtain ⟨p', hp', hq', hno⟩ := hq
              by_cases hpx : p'.1 = x
              · have e1 := kvGet_of_mem HD.out hp'
                have e2 := kvGet_of_mem HD.out HMEM.out
                rw [hpx] at e1
                simp only at e2
                rw [e2] at e1
                refine .inr ?_
                rw [← hq']
                simp only [edgeM]
                rw [← Option.some.inj e1]
                simp
              · refine .inl ⟨p', hp', hq', fun r hr he => ?_⟩
                exact hno r (List.mem_filter.2 ⟨hr, by simp; intro h; exact hpx (he.symm.trans h)⟩) he⟩, HB8⟩
           · have HMN := Aside0.mk (show min va vc = va by omega)
             go_wp2
             go_quiet (fail)
             go_wp2
             generalize hwz : w3.drewN nq = wz
             have HE5 := Aside0.mk (show Ends wz B kv M from by rw [← hwz]; exact HE4.out.below (pw_below_drewN (Below.refl _ _) _))
             have HB5 := Aside0.mk (show Below w.heap.size w wz from by rw [← hwz]; exact pw_below_drewN HB4.out _)
             have HO5 := Aside0.mk (show Kd.R (Kd.int .i64) 3 wz w.heap.size (fun _ => True) (.slice (some ⟨g3, 0, none⟩) k c3) now from by rw [← hwz]; exact Kd.R_drewN HO4.out _)
             have HR5 := Aside0.mk (show Kd.R (Kd.int .i64) 3 wz B (fun _ => True) (.slice (some ⟨gv, 0, none⟩) 2 cv) [(a : Int), (c : Int)] from by rw [← hwz]; exact Kd.R_drewN HROW.out _)
             have HRG5 := Aside0.mk (show rangeKV wz (Value.int .i64) b R kv (left.filter fun q => !decide (q.1 = x)) from by rw [← hwz]; exact HRG4.out)
             clear HE4 HB4 HO4 HROW HRG4 hwz h0' h1' hxa1 hxc1 hfa hfc
             have HF := Aside0.mk (fun (W : World) (h : Kd.R (Kd.int .i64) 3 W B (fun _ => True) (.slice (some ⟨gv, 0, none⟩) 2 cv) [(a : Int), (c : Int)]) => show W.cell? ⟨gv, 0, none⟩ = some (.int .i64 (a : Int)) ∧ W.cell? ⟨gv, 1, none⟩ = some (.int .i64 (c : Int)) from ⟨(Kd.R_cell (d := 0) (enc := Value.int .i64) (h1 := fun _ => rfl) h 0 (by omega) (by simp)).1, (Kd.R_cell (d := 0) (enc := Value.int .i64) (h1 := fun _ => rfl) h 1 (by omega) (by simp)).1⟩)
             have HC5 := Aside0.mk (fun (W : World) (l : List Int) (i : Nat) (hi : i < k) (hl : l.length = k) (h : Kd.R (Kd.int .i64) 3 W w.heap.size (fun _ => True) (.slice (some ⟨g3, 0, none⟩) k c3) l) => show W.cell? ⟨g3, i, none⟩ = some (.int .i64 (rd l (i : Int))) ∧ W.frozen? ⟨g3, i, none⟩ = false from by
              have := Kd.R_cell (d := 0) (enc := Value.int .i64) (h1 := fun _ => rfl) (by rw [hl]; exact h) (i : Int) (by omega) (by rw [hl]; omega)
              rwa [Int.toNat_natCast] at this)
             refine start_ (n := 14) (S := fun w' => w'.cell? ⟨gv, 0, none⟩ = some (.int .i64 (a : Int)) ∧ w'.cell? ⟨gv, 1, none⟩ = some (.int .i64 (c : Int))) (ds := [13]) #[false, false, false, false, false, false, false, false, false, false, false, false, false, false] (by kernel_rfl) rfl rfl (HF.out _ (Kd.R_drew HR5.out)) (fun hHeld => ?_)
             have HE6 := Aside0.mk (HE5.out.below (below_drew1 (Below.refl _ _)))
             have HB6 := Aside0.mk (HB5.out.drew)
             have HO6 := Aside0.mk (Kd.R_drew HO5.out)
             have HR6 := Aside0.mk (Kd.R_drew HR5.out)
             have HRG6 := Aside0.mk (show rangeKV wz.drew (Value.int .i64) b R kv (left.filter fun q => !decide (q.1 = x)) from HRG5.out)
             clear HE5 HB5 HO5 HR5 HRG5
             generalize wz.drew = wy at HE6 HB6 HO6 HR6 HRG6 hHeld ⊢
             refine pure_ (i := 0) (N := (some 45)) (v := ?_) (a' := ?_) #[true, false, false, false, false, false, false, false, false, false, false, false, false, false] rfl rfl (by kernel_rfl) (fun _ _ _ h => h) (Or.inl ⟨by rfl, ?_⟩) ?_ ?_
             rotate_left
             · intro w'
               go_simp
               with_reducible rfl
             rotate_left
             · simp only [Act.put, List.setIfInBounds_toArray, List.set_cons_zero, List.set_cons_succ, i64_w, i32_w]
               rfl
             refine pure_ (i := 1) (N := (some 46)) (v := ?_) (a' := ?_) #[true, true, false, false, false, false, false, false, false, false, false, false, false, false] rfl rfl (by kernel_rfl) (fun _ _ _ h => h) (Or.inl ⟨by rfl, ?_⟩) ?_ ?_
             rotate_left
             · intro w'
               go_simp
               with_reducible rfl
             rotate_left
             · simp only [Act.put, List.setIfInBounds_toArray, List.set_cons_zero, List.set_cons_succ, i64_w, i32_w]
               rfl
             refine pure_ (i := 2) (N := (some 47)) (v := ?_) (a' := ?_) #[true, true, true, false, false, false, false, false, false, false, false, false, false, false] rfl rfl (by kernel_rfl) (fun _ _ _ h => h) (Or.inl ⟨by rfl, ?_⟩) ?_ ?_
             rotate_left
             · intro w'
               go_simp
               with_reducible rfl
             rotate_left
             · simp only [Act.put, List.setIfInBounds_toArray, List.set_cons_zero, List.set_cons_succ, i64_w, i32_w]
               rfl
             refine take_ (i := 3) (N := (some 48)) (v := ?_) (a' := ?_) #[true, true, true, true, false, false, false, false, false, false, false, false, false, false] rfl rfl (by kernel_rfl) (fun _ _ _ h => h) (Or.inl ⟨by rfl, ?_⟩) hHeld ?_ ?_
             rotate_left
             · rintro w' ⟨s0, s1⟩
               go_simp
               with_reducible rfl
             rotate_left
             · simp only [Act.put, List.setIfInBounds_toArray, List.set_cons_zero, List.set_cons_succ, i64_w, i32_w]
               rfl
             refine pure_ (i := 4) (N := (some 49)) (v := ?_) (a' := ?_) #[true, true, true, true, true, false, false, false, false, false, false, false, false, false] rfl rfl (by kernel_rfl) (fun _ _ _ h => h) (Or.inl ⟨by rfl, ?_⟩) ?_ ?_
             rotate_left
             · intro w'
               go_simp
               with_reducible rfl
             rotate_left
             · simp only [Act.put, List.setIfInBounds_toArray, List.set_cons_zero, List.set_cons_succ, i64_w, i32_w]
               rfl
             refine pure_ (i := 5) (N := (some 50)) (v := ?_) (a' := ?_) #[true, true, true, true, true, true, false, false, false, false, false, false, false, false] rfl rfl (by kernel_rfl) (fun _ _ _ h => h) (Or.inl ⟨by rfl, ?_⟩) ?_ ?_
             rotate_left
             · intro w'
               go_simp
               with_reducible rfl
             rotate_left
             · simp only [Act.put, List.setIfInBounds_toArray, List.set_cons_zero, List.set_cons_succ, i64_w, i32_w]
               rfl
             refine pure_ (i := 6) (N := (some 51)) (v := ?_) (a' := ?_) #[true, true, true, true, true, true, true, false, false, false, false, false, false, false] rfl rfl (by kernel_rfl) (fun _ _ _ h => h) (Or.inl ⟨by rfl, ?_⟩) ?_ ?_
             rotate_left
             · intro w'
               go_simp
               with_reducible rfl
             rotate_left
             · simp only [Act.put, List.setIfInBounds_toArray, List.set_cons_zero, List.set_cons_succ, i64_w, i32_w]
               rfl
             refine take_ (i := 7) (N := (some 52)) (v := ?_) (a' := ?_) #[true, true, true, true, true, true, true, true, false, false, false, false, false, false] rfl rfl (by kernel_rfl) (fun _ _ _ h => h) (Or.inl ⟨by rfl, ?_⟩) hHeld ?_ ?_
             rotate_left
             · rintro w' ⟨s0, s1⟩
               go_simp
               with_reducible rfl
             rotate_left
             · simp only [Act.put, List.setIfInBounds_toArray, List.set_cons_zero, List.set_cons_succ, i64_w, i32_w]
               rfl
             refine pure_ (i := 8) (N := (some 53)) (v := ?_) (a' := ?_) #[true, true, true, true, true, true, true, true, true, false, false, false, false, false] rfl rfl (by kernel_rfl) (fun _ _ _ h => h) (Or.inl ⟨by rfl, ?_⟩) ?_ ?_
             rotate_left
             · intro w'
               go_simp
               with_reducible rfl
             rotate_left
             · simp only [Act.put, List.setIfInBounds_toArray, List.set_cons_zero, List.set_cons_succ, i64_w, i32_w]
               rfl
             refine pure_ (i := 9) (N := (some 54)) (v := ?_) (a' := ?_) #[true, true, true, true, true, true, true, true, true, true, false, false, false, false] rfl rfl (by kernel_rfl) (fun _ _ _ h => h) (Or.inl ⟨by rfl, ?_⟩) ?_ ?_
             rotate_left
             · intro w'
               go_simp
               with_reducible rfl
             rotate_left
             · simp only [Act.put, List.setIfInBounds_toArray, List.set_cons_zero, List.set_cons_succ, i64_w, i32_w]
               rfl
             refine pure_ (i := 10) (N := (some 55)) (v := ?_) (a' := ?_) #[true, true, true, true, true, true, true, true, true, true, true, false, false, false] rfl rfl (by kernel_rfl) (fun _ _ _ h => h) (Or.inl ⟨by rfl, ?_⟩) ?_ ?_
             rotate_left
             · intro w'
               go_simp
               with_reducible rfl
             rotate_left
             · simp only [Act.put, List.setIfInBounds_toArray, List.set_cons_zero, List.set_cons_succ, i64_w, i32_w]
               rfl
             have hs11 := (HC5.out _ now a hak HNL.out HO6.out).1
             have hf11 := (HC5.out _ now a hak HNL.out HO6.out).2
             refine one_ (i := 11) (N := none) #[true, true, true, true, true, true, true, true, true, true, true, true, false, false] rfl rfl (by kernel_rfl) (by decide) (fun K hK => ?_)
             refine skip_ (w1 := ?_) (by rfl) rfl ?_ ?_
             rotate_left
             · go_simp
               rfl
             clear hs11 hf11
             have hp1 := Kd.R_putg HO6.out (a : Int) va
             rw [Int.toNat_natCast] at hp1
             have HO7 := Aside0.mk hp1.1
             have HE7 := Aside0.mk (HE6.out.far (p := ⟨g3, a, none⟩) hgr (.int .i64 va))
             have HB7 := Aside0.mk (HB6.out.setCell (p := ⟨g3, a, none⟩) hg3 (.int .i64 va))
             have HR7 := Aside0.mk (Kd.R_mono (Kd.R_far (Kd.R_bound HR6.out) (p := ⟨g3, a, none⟩) (fun j hj => by have := hj.2.1; show j ≠ g3; omega) (.int .i64 va)) (fun _ hj => hj.1))
             have HRG7 := Aside0.mk (HRG6.out.move (w' := wy.setCell ⟨g3, a, none⟩ (.int .i64 va)) (Below.heap_setCell _ _ _ _ (by show b ≠ g3; omega)) (Below.heap_setCell _ _ _ _ (by show R ≠ g3; omega)))
             clear hp1 HO6 HE6 HB6 HR6 HRG6
             refine hK.out _ _ (HF.out _ HR7.out) (fun hHeld => ?_)
             clear hK K
             generalize wy.setCell ⟨g3, a, none⟩ (.int .i64 va) = wu at HO7 HE7 HB7 HR7 HRG7 hHeld ⊢
             refine pure_ (i := 12) (N := (some 56)) (v := ?_) (a' := ?_) #[true, true, true, true, true, true, true, true, true, true, true, true, true, false] rfl rfl (by kernel_rfl) (fun _ _ _ h => h) (Or.inl ⟨by rfl, ?_⟩) ?_ ?_
             rotate_left
             · intro w'
               go_simp
               with_reducible rfl
             rotate_left
             · simp only [Act.put, List.setIfInBounds_toArray, List.set_cons_zero, List.set_cons_succ, i64_w, i32_w]
               rfl
             refine last_ (i := 13) (N := none) #[true, true, true, true, true, true, true, true, true, true, true, true, true, true] rfl rfl (by kernel_rfl) (by decide) (fun K hK => ?_)
             have hlen7 : (now.set a va).length = k := by rw [List.length_set]; exact HNL.out
             have HL7 := Aside0.mk hlen7
             have hs13 := (HC5.out _ (now.set a va) c hck HL7.out HO7.out).1
             have hf13 := (HC5.out _ (now.set a va) c hck HL7.out HO7.out).2
             clear hlen7
             refine skip_ (w1 := ?_) (by rfl) rfl ?_ ?_
             rotate_left
             · go_simp
               rfl
             clear hs13 hf13
             have hp2 := Kd.R_putg HO7.out (c : Int) va
             rw [Int.toNat_natCast] at hp2
             have HO8 := Aside0.mk hp2.1
             have HE8 := Aside0.mk (HE7.out.far (p := ⟨g3, c, none⟩) hgr (.int .i64 va))
             have HB8 := Aside0.mk (HB7.out.setCell (p := ⟨g3, c, none⟩) hg3 (.int .i64 va))
             have HRG8 := Aside0.mk (HRG7.out.move (w' := wu.setCell ⟨g3, c, none⟩ (.int .i64 va)) (Below.heap_setCell _ _ _ _ (by show b ≠ g3; omega)) (Below.heap_setCell _ _ _ _ (by show R ≠ g3; omega)))
             clear hp2 HO7 HE7 HB7 HR7 HRG7
             refine hK.out _ _ ?_
             clear hK K
             generalize wu.setCell ⟨g3, c, none⟩ (.int .i64 va) = wv at HO8 HE8 HB8 HRG8 ⊢
             refine done_ (by kernel_rfl) ?_
             go_wp2
             go_roundg (left.filter fun q => !decide (q.1 = x)).length
             case measure => exact Nat.lt_of_lt_of_le (len_filter_lt (p := (x, Value.slice (some ⟨gv, 0, none⟩) 2 cv)) HPL.out) (Nat.le_of_eq HN.out)
             case rel => exact ⟨_, _, ⟨rfl⟩, HRG8, HE8, HO8, ⟨by
              have hmin : va = min (rd now (a : Int)) (rd now (c : Int)) := by rw [← EVA.out, ← EVC.out]; exact HMN.out.symm
              rw [hmin]
              refine HMID.out.step HE.out HEDGE.out (fun q hq => ?_)
              obtain ⟨p', hp', hq', hno⟩ := hq
              by_cases hpx : p'.1 = x
              · have e1 := kvGet_of_mem HD.out hp'
                have e2 := kvGet_of_mem HD.out HMEM.out
                rw [hpx] at e1
                simp only at e2
                rw [e2] at e1
                refine .inr ?_
                rw [← hq']
                simp only [edgeM]
                rw [← Option.some.inj e1]
                simp
              · refine .inl ⟨p', hp', hq', fun r hr he => ?_⟩
                exact hno r (List.mem_filter.2 ⟨hr, by simp; intro h; exact hpx (he.symm.trans h)⟩) he⟩, HB8⟩
     · obtain rfl : p = k := by omega
       go_wp2
       go_ret
       refine ⟨_, rfl, ?_, HB.out⟩
       have h1 := (HLB.out.done HE.out (by omega)).unique HE.out (partsC_is HE.out)
       rw [← h1]
       exact HO.out
end Go.Proofs.Ytibahnmljafkdaa.P
