/- Part of the claim. -/
import Derived.Test.YtgcgeoglhebonaaCeM6
set_option maxRecDepth 100000
set_option maxHeartbeats 8000000
section
namespace Go.Proofs.Ytgcgeoglhebonaa.P
open Go.RowKit Go.Maps Go.Proofs.YtgcgeoglhebonaaW.PrintWords Go.Proofs.YtgcgeoglhebonaaW.PrintLast Go.Proofs.YtgcgeoglhebonaaW.PrintMore
set_option linter.unusedVariables false
set_option linter.unusedSimpArgs false
theorem commLaw_any (p0 p1 : Int) (A0 : Option Addr) (c0 : Nat) (l0 : List S64) (A1 : Option Addr) (c1 : Nat) (l1 : List S64) (w : World)
 (hr0 : k64.C w A0 l0.length l0) (hc0 : l0.length ≤ c0) (hr1 : k64.C w A1 l1.length l1) (hc1 : l1.length ≤ c1)
 (hn0 : l0.length ≤ 9223372036854775807) (hn1 : l1.length ≤ 9223372036854775807) (hf0 : ∀ t ∈ l0, t.f0.length ≤ 9223372036854775807) (hf1 : ∀ t ∈ l1, t.f0.length ≤ 9223372036854775807) :
 Calls Try.prog 3 #[.agg #[.int .i64 p0, .slice A0 l0.length c0], .agg #[.int .i64 p1, .slice A1 l1.length c1]] w fun e w' => e = .returned (.bool true) ∧ Below w.heap.size w w' := by
 have hu3 := Try.underlying28
 have hu4 := Try.underlying24
 obtain ⟨s1, hs1, hsb1⟩ := szSum p0 l0 1048576 (by decide) (by decide) hn0 hf0
 obtain ⟨k1, hk1⟩ := hs1.rounds
 have HSZ1 := am (fun W (hb : Below w.heap.size w W) => laws_szSum.calls k1 p0 A0 c0 l0 1048576 s1 W (Kd.C_below hr0 hb) hc0 hk1)
 have hx0 := (MapKept.heap_alloc w (.cells #[.int .i64 p0, .slice A0 l0.length c0] 24)).1
 have hx1 := (MapKept.heap_alloc (w.alloc (.cells #[.int .i64 p0, .slice A0 l0.length c0] 24)) (.cells #[.int .i64 p1, .slice A1 l1.length c1] 24)).1
 rw [size_al] at hx1
 have HBX := am (below_alloc (below_alloc (Below.refl w.heap.size w) (.cells #[.int .i64 p0, .slice A0 l0.length c0] 24)) (.cells #[.int .i64 p1, .slice A1 l1.length c1] 24))
 have HBK := am (And.intro (blk_al (o' := (.cells #[.int .i64 p1, .slice A1 l1.length c1] 24)) hx0) hx1)
 have hz0 := (blk_cell HBK.out.1 0).trans (rfl : _ = some (Value.int .i64 p0))
 have hz1 := (blk_cell HBK.out.1 1).trans (rfl : _ = some (Value.slice A0 l0.length c0))
 clear hx0 hx1 hs1 hk1
 by_cases hneg : s1 < 0
 · have hnb : decide (s1 < 0) = true := decide_eq_true hneg
   clear hsb1 hneg hr0 hr1 hf0 hf1
   go_enter Try.func3, Try.ntmps3
   go_wp2_with fail
   go_must (refine (HSZ1.out _ HBX.out).mono ?_)
   rintro e w1 ⟨rfl, hb1⟩
   have HB1 := am (below_step HBX.out hb1)
   clear hb1 hz0 hz1
   go_wp2
   go_ret
   exact ⟨by rfl, HB1.out⟩
 have hnb1 : decide (s1 < 0) = false := decide_eq_false hneg
 obtain ⟨hs10, hs11, bl0, bf0⟩ := hsb1.resolve_left hneg
 obtain ⟨s2, hs2, hsb2⟩ := szSum p1 l1 s1 hs10 hs11 hn1 hf1
 obtain ⟨k2, hk2⟩ := hs2.rounds
 have HSZ2 := am (fun W (hb : Below w.heap.size w W) => laws_szSum.calls k2 p1 A1 c1 l1 s1 s2 W (Kd.C_below hr1 hb) hc1 hk2)
 clear hs2 hk2 hsb1
 by_cases hneg2 : s2 < 0
 · have hnb2 : decide (s2 < 0) = true := decide_eq_true hneg2
   clear hsb2 hneg hneg2 hr0 hr1 hf0 hf1 bf0
   go_enter Try.func3, Try.ntmps3
   go_wp2_with fail
   go_must (refine (HSZ1.out _ HBX.out).mono ?_)
   rintro e w1 ⟨rfl, hb1⟩
   have HB1 := am (below_step HBX.out hb1)
   have hz2 := (blk_cell (blk_below HBK.out.2 hb1) 0).trans (rfl : _ = some (Value.int .i64 p1))
   have hz3 := (blk_cell (blk_below HBK.out.2 hb1) 1).trans (rfl : _ = some (Value.slice A1 l1.length c1))
   clear hb1 hz0 hz1
   go_wp2_with fail
   go_must (refine (HSZ2.out _ HB1.out).mono ?_)
   rintro e w2 ⟨rfl, hb2⟩
   have HB2 := am (below_step HB1.out hb2)
   clear hb2 hz2 hz3
   go_wp2
   go_ret
   exact ⟨by rfl, HB2.out⟩
 have hnb2 : decide (s2 < 0) = false := decide_eq_false hneg2
 obtain ⟨hs20, hs21, bl1, bf1⟩ := hsb2.resolve_left hneg2
 have hl0 : l0.length ≤ 1048576 := by omega
 have hl1 : l1.length ≤ 1048576 := by omega
 have hw0 : ∀ t ∈ l0, t.f0.length ≤ 1048576 := fun t ht => by have := bf0 t ht; omega
 have hw1 : ∀ t ∈ l1, t.f0.length ≤ 1048576 := fun t ht => by have := bf1 t ht; omega
 clear bl0 bf0 bl1 bf1 hs10 hs11 hs20 hs21 hsb2 hf0 hf1 hneg hneg2
 have HTO0 := am (fun W (hb : Below w.heap.size w W) => toSum_any p0 A0 c0 l0 W (Kd.C_below hr0 hb) hc0 (by omega) (fun t ht => Nat.le_trans (hw0 t ht) (by decide)))
 have HTO1 := am (fun W (hb : Below w.heap.size w W) => toSum_any p1 A1 c1 l1 W (Kd.C_below hr1 hb) hc1 (by omega) (fun t ht => Nat.le_trans (hw1 t ht) (by decide)))
 have hxl : (l0.map conv).length ≤ 1048576 := by rw [List.length_map]; exact hl0
 have hyl : (l1.map conv).length ≤ 1048576 := by rw [List.length_map]; exact hl1
 have hxw : ∀ t ∈ l0.map conv, t.f0.length ≤ 1048576 := fun t ht => by obtain ⟨a, ha, rfl⟩ := List.mem_map.1 ht; exact hw0 a ha
 have hyw : ∀ t ∈ l1.map conv, t.f0.length ≤ 1048576 := fun t ht => by obtain ⟨a, ha, rfl⟩ := List.mem_map.1 ht; exact hw1 a ha
 generalize l0.map conv = xs at *
 generalize l1.map conv = ys at *
 have hlx : lenT xs ≤ 1000000000000000 / 8 := Nat.le_trans (lenT_le hxw) (Nat.le_trans (Nat.mul_le_mul_right _ hxl) (by decide))
 have hly : lenT ys ≤ 1000000000000000 / 8 := Nat.le_trans (lenT_le hyw) (Nat.le_trans (Nat.mul_le_mul_right _ hyl) (by decide))
 obtain ⟨rp, ts, rc, hev, hci⟩ := spec_comm p0 xs p1 ys
 have htl := hci.len
 have HEV := am hev
 have HCI := am hci
 clear hev hci hr0 hr1 hw0 hw1
 go_enter Try.func3, Try.ntmps3
 go_wp2_with fail
 go_must (refine (HSZ1.out _ HBX.out).mono ?_)
 rintro e w1 ⟨rfl, hb1⟩
 have HB1 := am (below_step HBX.out hb1)
 have HBK1 := am (And.intro (blk_below HBK.out.1 hb1) (blk_below HBK.out.2 hb1))
 have hz2 := (blk_cell HBK1.out.2 0).trans (rfl : _ = some (Value.int .i64 p1))
 have hz3 := (blk_cell HBK1.out.2 1).trans (rfl : _ = some (Value.slice A1 l1.length c1))
 clear hb1 hz0 hz1 HBK HBX
 go_wp2_with fail
 go_must (refine (HSZ2.out _ HB1.out).mono ?_)
 rintro e w2 ⟨rfl, hb2⟩
 have HB2 := am (below_step HB1.out hb2)
 have HBK2 := am (And.intro (blk_below HBK1.out.1 hb2) (blk_below HBK1.out.2 hb2))
 clear hb2 hz2 hz3 HBK1 HB1 HSZ1 HSZ2
 go_wp2_with fail
 have HSS := am (fun W (hb : Below w2.heap.size w2 W) => show W.cell? ⟨w.heap.size, 0, none⟩ = some (.int .i64 p0) ∧ W.cell? ⟨w.heap.size, 1, none⟩ = some (.slice A0 l0.length c0) ∧ W.cell? ⟨w.heap.size + 1, 0, none⟩ = some (.int .i64 p1) ∧ W.cell? ⟨w.heap.size + 1, 1, none⟩ = some (.slice A1 l1.length c1) from
  ⟨(blk_cell (blk_below HBK2.out.1 hb) 0).trans rfl, (blk_cell (blk_below HBK2.out.1 hb) 1).trans rfl, (blk_cell (blk_below HBK2.out.2 hb) 0).trans rfl, (blk_cell (blk_below HBK2.out.2 hb) 1).trans rfl⟩)
 have HBC := am (below_drew (Below.refl w2.heap.size w2))
 refine start_ (n := 11) (S := fun w' => w'.cell? ⟨w.heap.size, 0, none⟩ = some (.int .i64 p0) ∧ w'.cell? ⟨w.heap.size, 1, none⟩ = some (.slice A0 l0.length c0) ∧ w'.cell? ⟨w.heap.size + 1, 0, none⟩ = some (.int .i64 p1) ∧ w'.cell? ⟨w.heap.size + 1, 1, none⟩ = some (.slice A1 l1.length c1)) (ds := [9,10]) (bs 0 11) (by kernel_rfl) rfl rfl (HSS.out _ HBC.out) (fun hHeld => ?_)
 generalize w2.drew = wz at HBC hHeld ⊢
 refine take_ (i := 0) (N := (some 28)) (v := ?_) (a' := ?_) (bs 1 11) rfl rfl (by kernel_rfl) (fun _ _ _ h => h) (Or.inl ⟨by rfl, ?_⟩) hHeld ?_ ?_; rotate_left; rintro w' ⟨s0, s1, s2, s3⟩; go_simp; with_reducible rfl; rotate_left; simp only [Act.put, qq1, qq2, qq3, i64_w, i32_w]; rfl
 refine take_ (i := 2) (N := (some 30)) (v := ?_) (a' := ?_) (bs 5 11) rfl rfl (by kernel_rfl) (fun _ _ _ h => h) (Or.inl ⟨by rfl, ?_⟩) hHeld ?_ ?_; rotate_left; rintro w' ⟨s0, s1, s2, s3⟩; go_simp; with_reducible rfl; rotate_left; simp only [Act.put, qq1, qq2, qq3, i64_w, i32_w]; rfl
 refine join_ (σ := Option Addr × Nat × Option Addr × Nat × Option Addr × Nat × Nat) 2 (bs 511 11) (fun s_ => [(29, .agg #[.int .i64 p0, .slice s_.1 xs.length s_.2.1]), (31, .agg #[.int .i64 p1, .slice s_.2.2.1 ys.length s_.2.2.2.1]), (32, .tuple #[.agg #[.int .i64 rp, .slice s_.2.2.2.2.1 ts.length s_.2.2.2.2.2.1], .int .i64 rc]), (27, .tuple #[.agg #[.int .i64 rp, .slice s_.2.2.2.2.1 ts.length s_.2.2.2.2.2.1], .int .i64 rc]), (33, .agg #[.int .i64 rp, .slice s_.2.2.2.2.1 ts.length s_.2.2.2.2.2.1]), (34, .int .i64 rc), (6, .pointer (some ⟨s_.2.2.2.2.2.2, 0, none⟩))]) (fun s_ w' => (w'.cell? ⟨w.heap.size, 0, none⟩ = some (.int .i64 p0) ∧ w'.cell? ⟨w.heap.size, 1, none⟩ = some (.slice A0 l0.length c0) ∧ w'.cell? ⟨w.heap.size + 1, 0, none⟩ = some (.int .i64 p1) ∧ w'.cell? ⟨w.heap.size + 1, 1, none⟩ = some (.slice A1 l1.length c1)) ∧ Below w2.heap.size w2 w' ∧ (w'.heap[s_.2.2.2.2.2.2]? = some (.cells #[.int .i64 0, .slice none 0 0] 28 (0, 0)) ∧ w2.heap.size ≤ s_.2.2.2.2.2.2) ∧ (ts.length ≤ s_.2.2.2.2.2.1 ∧ Kd.F k65 w' (fun k => w2.heap.size ≤ k ∧ k ≠ s_.2.2.2.2.2.2) s_.2.2.2.2.1 ts.length ts)) ?_ ?_
 rotate_left
 · intro hCont
   refine two_ (i := 1) (j := 8) (Ni := (some 29)) (Nj := (some 6)) (bs 7 11) (bs 261 11) rfl rfl rfl rfl (by kernel_rfl) (by decide) (by decide) (fun K hK => ?_) (fun K hK => ?_)
   · skip
     refine goes_ Try.func8 (by kernel_rfl) rfl #[.agg #[.int .i64 p0, .slice A0 l0.length c0]] (by rfl) rfl rfl (by (try simp only [List.map_toArray, List.map_cons, List.map_nil]); rfl) ?_
     refine (HTO0.out _ (below_step HB2.out HBC.out)).mono ?_
     rintro e wn ⟨u1, es1, rfl, hm, ht, hb⟩
     refine ⟨_, rfl, ?_⟩
     replace HBC := am (below_step HBC.out hb)
     obtain ⟨T1, t1, rfl⟩ := ht.slice
     obtain ⟨e1, e2, e3⟩ := ht.foot hm
     rw [e1] at *
     have HT1 := am (And.intro e2 (Kd.F_now e3))
     clear hm ht hb e1 e2 e3
     refine hK.out _ _ (HSS.out _ HBC.out) (fun hHeld => ?_)
     clear hK K
     refine norm_ (a' := ?_) ?_ ?_; rotate_left; show Act.put _ (some 29) _ = _; simp only [Act.put, qq1, qq2, qq3, i64_w, i32_w]; rfl
     refine two_ (i := 3) (j := 8) (Ni := (some 31)) (Nj := (some 6)) (bs 15 11) (bs 263 11) rfl rfl rfl rfl (by kernel_rfl) (by decide) (by decide) (fun K hK => ?_) (fun K hK => ?_)
     · skip
       refine goes_ Try.func8 (by kernel_rfl) rfl #[.agg #[.int .i64 p1, .slice A1 l1.length c1]] (by rfl) rfl rfl (by (try simp only [List.map_toArray, List.map_cons, List.map_nil]); rfl) ?_
       refine (HTO1.out _ (below_step HB2.out HBC.out)).mono ?_
       rintro e wn ⟨u2, es2, rfl, hm, ht, hb⟩
       refine ⟨_, rfl, ?_⟩
       replace HT1 := am (And.intro HT1.out.1 (Kd.C_below HT1.out.2 hb))
       replace HBC := am (below_step HBC.out hb)
       obtain ⟨T2, t2, rfl⟩ := ht.slice
       obtain ⟨e1, e2, e3⟩ := ht.foot hm
       rw [e1] at *
       have HT2 := am (And.intro e2 (Kd.F_now e3))
       clear hm ht hb e1 e2 e3
       refine hK.out _ _ (HSS.out _ HBC.out) (fun hHeld => ?_)
       clear hK K
       refine norm_ (a' := ?_) ?_ ?_; rotate_left; show Act.put _ (some 31) _ = _; simp only [Act.put, qq1, qq2, qq3, i64_w, i32_w]; rfl
       refine two_ (i := 4) (j := 8) (Ni := (some 32)) (Nj := (some 6)) (bs 31 11) (bs 271 11) rfl rfl rfl rfl (by kernel_rfl) (by decide) (by decide) (fun K hK => ?_) (fun K hK => ?_)
       · skip
         refine goes_ Try.func7 (by kernel_rfl) rfl #[.agg #[.int .i64 p0, .slice T1 xs.length t1], .agg #[.int .i64 p1, .slice T2 ys.length t2]] (by rfl) rfl rfl (by (try simp only [List.map_toArray, List.map_cons, List.map_nil]); rfl) ?_
         have hsz := HBC.out.size
         refine (specC_any p0 p1 rp rc T1 T2 t1 t2 xs ys ts _ HEV.out HT1.out.2 HT1.out.1 HT2.out.2 HT2.out.1).mono ?_
         rintro e wn ⟨U, uc, rfl, hl, hf, hb⟩
         refine ⟨_, rfl, ?_⟩
         have HFF := am (And.intro hl (Kd.F_mono hf (fun k hk => Nat.le_trans hsz hk)))
         replace HT1 := am (And.intro HT1.out.1 (Kd.C_below HT1.out.2 hb))
         replace HT2 := am (And.intro HT2.out.1 (Kd.C_below HT2.out.2 hb))
         replace HBC := am (below_step HBC.out hb)
         clear hl hf hb hsz
         refine hK.out _ _ (HSS.out _ HBC.out) (fun hHeld => ?_)
         clear hK K
         refine norm_ (a' := ?_) ?_ ?_; rotate_left; show Act.put _ (some 32) _ = _; simp only [Act.put, qq1, qq2, qq3, i64_w, i32_w]; rfl
         refine pure_ (i := 5) (N := (some 27)) (v := ?_) (a' := ?_) (bs 63 11) rfl rfl (by kernel_rfl) (fun _ _ _ h => h) (Or.inl ⟨by rfl, ?_⟩) ?_ ?_; rotate_left; intro w'; go_simp; with_reducible rfl; rotate_left; simp only [Act.put, qq1, qq2, qq3, i64_w, i32_w]; rfl
         refine pure_ (i := 6) (N := (some 33)) (v := ?_) (a' := ?_) (bs 127 11) rfl rfl (by kernel_rfl) (fun _ _ _ h => h) (Or.inl ⟨by rfl, ?_⟩) ?_ ?_; rotate_left; intro w'; go_simp; with_reducible rfl; rotate_left; simp only [Act.put, qq1, qq2, qq3, i64_w, i32_w]; rfl
         refine pure_ (i := 7) (N := (some 34)) (v := ?_) (a' := ?_) (bs 255 11) rfl rfl (by kernel_rfl) (fun _ _ _ h => h) (Or.inl ⟨by rfl, ?_⟩) ?_ ?_; rotate_left; intro w'; go_simp; with_reducible rfl; rotate_left; simp only [Act.put, qq1, qq2, qq3, i64_w, i32_w]; rfl
         refine one_ (i := 8) (N := (some 6)) (bs 511 11) rfl rfl (by kernel_rfl) (by decide) (fun K hK => ?_)
         refine box_step ?hg (N := 6) ?hd (cs := #[.int .i64 0, .slice none 0 0]) (t := 28) ?hr ?_; (case hd => rfl); (case hg => rfl); (case hr => first | (go_simp; done) | (go_simp; rfl))
         intro b6 hg wn hbox hb
         have hsz := HBC.out.size
         have HA0 := am (And.intro hbox (show w2.heap.size ≤ b6 by omega))
         replace HFF := am (And.intro HFF.out.1 (Kd.F_mono (Kd.F_bound HFF.out.2) (fun k hk => (⟨hk.1, by have := hk.2; omega⟩ : w2.heap.size ≤ k ∧ k ≠ b6))))
         replace HT1 := am (And.intro HT1.out.1 (Kd.C_below HT1.out.2 hb))
         replace HT2 := am (And.intro HT2.out.1 (Kd.C_below HT2.out.2 hb))
         replace HFF := am (And.intro HFF.out.1 (Kd.F_below HFF.out.2 hb))
         replace HBC := am (below_step HBC.out hb)
         have HA := HA0
         clear hg hbox hb hsz HA0
         refine hK.out _ _ (HSS.out _ HBC.out) (fun hHeld => ?_)
         clear hK K
         refine norm_ (a' := ?_) ?_ ?_; rotate_left; show Act.put _ (some 6) _ = _; simp only [Act.put, qq1, qq2, qq3, i64_w, i32_w]; rfl
         refine norm_ (by simp only [putAll, Act.put, qq1, qq2, qq3]) (hCont (T1, t1, T2, t2, U, uc, b6) _ ?_)
         exact ⟨hHeld, HBC.out, HA.out, HFF.out⟩
       · skip
         refine box_step ?hg (N := 6) ?hd (cs := #[.int .i64 0, .slice none 0 0]) (t := 28) ?hr ?_; (case hd => rfl); (case hg => rfl); (case hr => first | (go_simp; done) | (go_simp; rfl))
         intro b6 hg wn hbox hb
         have hsz := HBC.out.size
         have HA0 := am (And.intro hbox (show w2.heap.size ≤ b6 by omega))
         replace HT1 := am (And.intro HT1.out.1 (Kd.C_below HT1.out.2 hb))
         replace HT2 := am (And.intro HT2.out.1 (Kd.C_below HT2.out.2 hb))
         replace HBC := am (below_step HBC.out hb)
         have HA := HA0
         clear hg hbox hb hsz HA0
         refine hK.out _ _ (HSS.out _ HBC.out) (fun hHeld => ?_)
         clear hK K
         refine norm_ (a' := ?_) ?_ ?_; rotate_left; show Act.put _ (some 6) _ = _; simp only [Act.put, qq1, qq2, qq3, i64_w, i32_w]; rfl
         refine one_ (i := 4) (N := (some 32)) (bs 287 11) rfl rfl (by kernel_rfl) (by decide) (fun K hK => ?_)
         refine goes_ Try.func7 (by kernel_rfl) rfl #[.agg #[.int .i64 p0, .slice T1 xs.length t1], .agg #[.int .i64 p1, .slice T2 ys.length t2]] (by rfl) rfl rfl (by (try simp only [List.map_toArray, List.map_cons, List.map_nil]); rfl) ?_
         have hsz := HBC.out.size
         refine (specC_any p0 p1 rp rc T1 T2 t1 t2 xs ys ts _ HEV.out HT1.out.2 HT1.out.1 HT2.out.2 HT2.out.1).mono ?_
         rintro e wn ⟨U, uc, rfl, hl, hf, hb⟩
         refine ⟨_, rfl, ?_⟩
         have HFF := am (And.intro hl (Kd.F_mono hf (fun k hk => (⟨Nat.le_trans hsz hk, fun hh => by have := (Array.getElem?_eq_some_iff.1 HA.out.1).1; omega⟩ : w2.heap.size ≤ k ∧ k ≠ b6))))
         replace HA := am (And.intro (blk_below HA.out.1 hb) HA.out.2)
         replace HT1 := am (And.intro HT1.out.1 (Kd.C_below HT1.out.2 hb))
         replace HT2 := am (And.intro HT2.out.1 (Kd.C_below HT2.out.2 hb))
         replace HBC := am (below_step HBC.out hb)
         clear hl hf hb hsz
         refine hK.out _ _ (HSS.out _ HBC.out) (fun hHeld => ?_)
         clear hK K
         refine norm_ (a' := ?_) ?_ ?_; rotate_left; show Act.put _ (some 32) _ = _; simp only [Act.put, qq1, qq2, qq3, i64_w, i32_w]; rfl
         refine pure_ (i := 5) (N := (some 27)) (v := ?_) (a' := ?_) (bs 319 11) rfl rfl (by kernel_rfl) (fun _ _ _ h => h) (Or.inl ⟨by rfl, ?_⟩) ?_ ?_; rotate_left; intro w'; go_simp; with_reducible rfl; rotate_left; simp only [Act.put, qq1, qq2, qq3, i64_w, i32_w]; rfl
         refine pure_ (i := 6) (N := (some 33)) (v := ?_) (a' := ?_) (bs 383 11) rfl rfl (by kernel_rfl) (fun _ _ _ h => h) (Or.inl ⟨by rfl, ?_⟩) ?_ ?_; rotate_left; intro w'; go_simp; with_reducible rfl; rotate_left; simp only [Act.put, qq1, qq2, qq3, i64_w, i32_w]; rfl
         refine pure_ (i := 7) (N := (some 34)) (v := ?_) (a' := ?_) (bs 511 11) rfl rfl (by kernel_rfl) (fun _ _ _ h => h) (Or.inl ⟨by rfl, ?_⟩) ?_ ?_; rotate_left; intro w'; go_simp; with_reducible rfl; rotate_left; simp only [Act.put, qq1, qq2, qq3, i64_w, i32_w]; rfl
         refine norm_ (by simp only [putAll, Act.put, qq1, qq2, qq3]) (hCont (T1, t1, T2, t2, U, uc, b6) _ ?_)
         exact ⟨hHeld, HBC.out, HA.out, HFF.out⟩
     · skip
       refine box_step ?hg (N := 6) ?hd (cs := #[.int .i64 0, .slice none 0 0]) (t := 28) ?hr ?_; (case hd => rfl); (case hg => rfl); (case hr => first | (go_simp; done) | (go_simp; rfl))
       intro b6 hg wn hbox hb
       have hsz := HBC.out.size
       have HA0 := am (And.intro hbox (show w2.heap.size ≤ b6 by omega))
       replace HT1 := am (And.intro HT1.out.1 (Kd.C_below HT1.out.2 hb))
       replace HBC := am (below_step HBC.out hb)
       have HA := HA0
       clear hg hbox hb hsz HA0
       refine hK.out _ _ (HSS.out _ HBC.out) (fun hHeld => ?_)
       clear hK K
       refine norm_ (a' := ?_) ?_ ?_; rotate_left; show Act.put _ (some 6) _ = _; simp only [Act.put, qq1, qq2, qq3, i64_w, i32_w]; rfl
       refine one_ (i := 3) (N := (some 31)) (bs 271 11) rfl rfl (by kernel_rfl) (by decide) (fun K hK => ?_)
       refine goes_ Try.func8 (by kernel_rfl) rfl #[.agg #[.int .i64 p1, .slice A1 l1.length c1]] (by rfl) rfl rfl (by (try simp only [List.map_toArray, List.map_cons, List.map_nil]); rfl) ?_
       refine (HTO1.out _ (below_step HB2.out HBC.out)).mono ?_
       rintro e wn ⟨u2, es2, rfl, hm, ht, hb⟩
       refine ⟨_, rfl, ?_⟩
       replace HA := am (And.intro (blk_below HA.out.1 hb) HA.out.2)
       replace HT1 := am (And.intro HT1.out.1 (Kd.C_below HT1.out.2 hb))
       replace HBC := am (below_step HBC.out hb)
       obtain ⟨T2, t2, rfl⟩ := ht.slice
       obtain ⟨e1, e2, e3⟩ := ht.foot hm
       rw [e1] at *
       have HT2 := am (And.intro e2 (Kd.F_now e3))
       clear hm ht hb e1 e2 e3
       refine hK.out _ _ (HSS.out _ HBC.out) (fun hHeld => ?_)
       clear hK K
       refine norm_ (a' := ?_) ?_ ?_; rotate_left; show Act.put _ (some 31) _ = _; simp only [Act.put, qq1, qq2, qq3, i64_w, i32_w]; rfl
       refine one_ (i := 4) (N := (some 32)) (bs 287 11) rfl rfl (by kernel_rfl) (by decide) (fun K hK => ?_)
       refine goes_ Try.func7 (by kernel_rfl) rfl #[.agg #[.int .i64 p0, .slice T1 xs.length t1], .agg #[.int .i64 p1, .slice T2 ys.length t2]] (by rfl) rfl rfl (by (try simp only [List.map_toArray, List.map_cons, List.map_nil]); rfl) ?_
       have hsz := HBC.out.size
       refine (specC_any p0 p1 rp rc T1 T2 t1 t2 xs ys ts _ HEV.out HT1.out.2 HT1.out.1 HT2.out.2 HT2.out.1).mono ?_
       rintro e wn ⟨U, uc, rfl, hl, hf, hb⟩
       refine ⟨_, rfl, ?_⟩
       have HFF := am (And.intro hl (Kd.F_mono hf (fun k hk => (⟨Nat.le_trans hsz hk, fun hh => by have := (Array.getElem?_eq_some_iff.1 HA.out.1).1; omega⟩ : w2.heap.size ≤ k ∧ k ≠ b6))))
       replace HA := am (And.intro (blk_below HA.out.1 hb) HA.out.2)
       replace HT1 := am (And.intro HT1.out.1 (Kd.C_below HT1.out.2 hb))
       replace HT2 := am (And.intro HT2.out.1 (Kd.C_below HT2.out.2 hb))
       replace HBC := am (below_step HBC.out hb)
       clear hl hf hb hsz
       refine hK.out _ _ (HSS.out _ HBC.out) (fun hHeld => ?_)
       clear hK K
       refine norm_ (a' := ?_) ?_ ?_; rotate_left; show Act.put _ (some 32) _ = _; simp only [Act.put, qq1, qq2, qq3, i64_w, i32_w]; rfl
       refine pure_ (i := 5) (N := (some 27)) (v := ?_) (a' := ?_) (bs 319 11) rfl rfl (by kernel_rfl) (fun _ _ _ h => h) (Or.inl ⟨by rfl, ?_⟩) ?_ ?_; rotate_left; intro w'; go_simp; with_reducible rfl; rotate_left; simp only [Act.put, qq1, qq2, qq3, i64_w, i32_w]; rfl
       refine pure_ (i := 6) (N := (some 33)) (v := ?_) (a' := ?_) (bs 383 11) rfl rfl (by kernel_rfl) (fun _ _ _ h => h) (Or.inl ⟨by rfl, ?_⟩) ?_ ?_; rotate_left; intro w'; go_simp; with_reducible rfl; rotate_left; simp only [Act.put, qq1, qq2, qq3, i64_w, i32_w]; rfl
       refine pure_ (i := 7) (N := (some 34)) (v := ?_) (a' := ?_) (bs 511 11) rfl rfl (by kernel_rfl) (fun _ _ _ h => h) (Or.inl ⟨by rfl, ?_⟩) ?_ ?_; rotate_left; intro w'; go_simp; with_reducible rfl; rotate_left; simp only [Act.put, qq1, qq2, qq3, i64_w, i32_w]; rfl
       refine norm_ (by simp only [putAll, Act.put, qq1, qq2, qq3]) (hCont (T1, t1, T2, t2, U, uc, b6) _ ?_)
       exact ⟨hHeld, HBC.out, HA.out, HFF.out⟩
   · skip
     refine box_step ?hg (N := 6) ?hd (cs := #[.int .i64 0, .slice none 0 0]) (t := 28) ?hr ?_; (case hd => rfl); (case hg => rfl); (case hr => first | (go_simp; done) | (go_simp; rfl))
     intro b6 hg wn hbox hb
     have hsz := HBC.out.size
     have HA0 := am (And.intro hbox (show w2.heap.size ≤ b6 by omega))
     replace HBC := am (below_step HBC.out hb)
     have HA := HA0
     clear hg hbox hb hsz HA0
     refine hK.out _ _ (HSS.out _ HBC.out) (fun hHeld => ?_)
     clear hK K
     refine norm_ (a' := ?_) ?_ ?_; rotate_left; show Act.put _ (some 6) _ = _; simp only [Act.put, qq1, qq2, qq3, i64_w, i32_w]; rfl
     refine one_ (i := 1) (N := (some 29)) (bs 263 11) rfl rfl (by kernel_rfl) (by decide) (fun K hK => ?_)
     refine goes_ Try.func8 (by kernel_rfl) rfl #[.agg #[.int .i64 p0, .slice A0 l0.length c0]] (by rfl) rfl rfl (by (try simp only [List.map_toArray, List.map_cons, List.map_nil]); rfl) ?_
     refine (HTO0.out _ (below_step HB2.out HBC.out)).mono ?_
     rintro e wn ⟨u1, es1, rfl, hm, ht, hb⟩
     refine ⟨_, rfl, ?_⟩
     replace HA := am (And.intro (blk_below HA.out.1 hb) HA.out.2)
     replace HBC := am (below_step HBC.out hb)
     obtain ⟨T1, t1, rfl⟩ := ht.slice
     obtain ⟨e1, e2, e3⟩ := ht.foot hm
     rw [e1] at *
     have HT1 := am (And.intro e2 (Kd.F_now e3))
     clear hm ht hb e1 e2 e3
     refine hK.out _ _ (HSS.out _ HBC.out) (fun hHeld => ?_)
     clear hK K
     refine norm_ (a' := ?_) ?_ ?_; rotate_left; show Act.put _ (some 29) _ = _; simp only [Act.put, qq1, qq2, qq3, i64_w, i32_w]; rfl
     refine one_ (i := 3) (N := (some 31)) (bs 271 11) rfl rfl (by kernel_rfl) (by decide) (fun K hK => ?_)
     refine goes_ Try.func8 (by kernel_rfl) rfl #[.agg #[.int .i64 p1, .slice A1 l1.length c1]] (by rfl) rfl rfl (by (try simp only [List.map_toArray, List.map_cons, List.map_nil]); rfl) ?_
     refine (HTO1.out _ (below_step HB2.out HBC.out)).mono ?_
     rintro e wn ⟨u2, es2, rfl, hm, ht, hb⟩
     refine ⟨_, rfl, ?_⟩
     replace HA := am (And.intro (blk_below HA.out.1 hb) HA.out.2)
     replace HT1 := am (And.intro HT1.out.1 (Kd.C_below HT1.out.2 hb))
     replace HBC := am (below_step HBC.out hb)
     obtain ⟨T2, t2, rfl⟩ := ht.slice
     obtain ⟨e1, e2, e3⟩ := ht.foot hm
     rw [e1] at *
     have HT2 := am (And.intro e2 (Kd.F_now e3))
     clear hm ht hb e1 e2 e3
     refine hK.out _ _ (HSS.out _ HBC.out) (fun hHeld => ?_)
     clear hK K
     refine norm_ (a' := ?_) ?_ ?_; rotate_left; show Act.put _ (some 31) _ = _; simp only [Act.put, qq1, qq2, qq3, i64_w, i32_w]; rfl
     refine one_ (i := 4) (N := (some 32)) (bs 287 11) rfl rfl (by kernel_rfl) (by decide) (fun K hK => ?_)
     refine goes_ Try.func7 (by kernel_rfl) rfl #[.agg #[.int .i64 p0, .slice T1 xs.length t1], .agg #[.int .i64 p1, .slice T2 ys.length t2]] (by rfl) rfl rfl (by (try simp only [List.map_toArray, List.map_cons, List.map_nil]); rfl) ?_
     have hsz := HBC.out.size
     refine (specC_any p0 p1 rp rc T1 T2 t1 t2 xs ys ts _ HEV.out HT1.out.2 HT1.out.1 HT2.out.2 HT2.out.1).mono ?_
     rintro e wn ⟨U, uc, rfl, hl, hf, hb⟩
     refine ⟨_, rfl, ?_⟩
     have HFF := am (And.intro hl (Kd.F_mono hf (fun k hk => (⟨Nat.le_trans hsz hk, fun hh => by have := (Array.getElem?_eq_some_iff.1 HA.out.1).1; omega⟩ : w2.heap.size ≤ k ∧ k ≠ b6))))
     replace HA := am (And.intro (blk_below HA.out.1 hb) HA.out.2)
     replace HT1 := am (And.intro HT1.out.1 (Kd.C_below HT1.out.2 hb))
     replace HT2 := am (And.intro HT2.out.1 (Kd.C_below HT2.out.2 hb))
     replace HBC := am (below_step HBC.out hb)
     clear hl hf hb hsz
     refine hK.out _ _ (HSS.out _ HBC.out) (fun hHeld => ?_)
     clear hK K
     refine norm_ (a' := ?_) ?_ ?_; rotate_left; show Act.put _ (some 32) _ = _; simp only [Act.put, qq1, qq2, qq3, i64_w, i32_w]; rfl
     refine pure_ (i := 5) (N := (some 27)) (v := ?_) (a' := ?_) (bs 319 11) rfl rfl (by kernel_rfl) (fun _ _ _ h => h) (Or.inl ⟨by rfl, ?_⟩) ?_ ?_; rotate_left; intro w'; go_simp; with_reducible rfl; rotate_left; simp only [Act.put, qq1, qq2, qq3, i64_w, i32_w]; rfl
     refine pure_ (i := 6) (N := (some 33)) (v := ?_) (a' := ?_) (bs 383 11) rfl rfl (by kernel_rfl) (fun _ _ _ h => h) (Or.inl ⟨by rfl, ?_⟩) ?_ ?_; rotate_left; intro w'; go_simp; with_reducible rfl; rotate_left; simp only [Act.put, qq1, qq2, qq3, i64_w, i32_w]; rfl
     refine pure_ (i := 7) (N := (some 34)) (v := ?_) (a' := ?_) (bs 511 11) rfl rfl (by kernel_rfl) (fun _ _ _ h => h) (Or.inl ⟨by rfl, ?_⟩) ?_ ?_; rotate_left; intro w'; go_simp; with_reducible rfl; rotate_left; simp only [Act.put, qq1, qq2, qq3, i64_w, i32_w]; rfl
     refine norm_ (by simp only [putAll, Act.put, qq1, qq2, qq3]) (hCont (T1, t1, T2, t2, U, uc, b6) _ ?_)
     exact ⟨hHeld, HBC.out, HA.out, HFF.out⟩
 rintro ⟨T1, t1, T2, t2, U, uc, b6⟩ w3 ⟨hHeld, hbc, hbox, hff⟩
 dsimp only at hbox hff
 refine norm_ (a' := ?_) ?_ ?_; rotate_left; simp only [putAll, Act.put, qq1, qq2, qq3, i64_w, i32_w]; rfl
 have HA := am hbox
 have HFF := am hff
 have HBC3 := am hbc
 have hd0 := (blk_cell HA.out.1 0).trans (rfl : _ = some (Value.int .i64 0))
 have hd1 := (blk_cell HA.out.1 1).trans (rfl : _ = some (Value.slice none 0 0))
 have hf0 := blk_frozen HA.out.1 0
 have hf1 := blk_frozen HA.out.1 1
 clear hbox hff hbc HBC
 refine last_ (i := 9) (N := none) (bs 1023 11) rfl rfl (by kernel_rfl) (by decide) (fun K hK => ?_)
 refine skip_ (w1 := ?_) (by rfl) rfl ?_ ?_
 rotate_left
 · go_simp
   rfl
 refine hK.out _ _ ?_
 clear hK K hd0 hd1 hf0 hf1
 refine pure_ (i := 10) (N := (some 7)) (v := ?_) (a' := ?_) (bs 2047 11) rfl rfl (by kernel_rfl) (fun _ _ _ h => h) (Or.inl ⟨by rfl, ?_⟩) ?_ ?_; rotate_left; intro w'; go_simp; with_reducible rfl; rotate_left; simp only [Act.put, qq1, qq2, qq3, i64_w, i32_w]; rfl
 refine done_ (by kernel_rfl) ?_
 have HGE := am (show w.heap.size + 1 < w2.heap.size from (Array.getElem?_eq_some_iff.1 HBK2.out.2).1)
 have HL := am (show LawSt w ((w3.setCell ⟨b6, 0, none⟩ (.int .i64 rp)).setCell ⟨b6, 1, none⟩ (.slice U ts.length uc)) [(w.heap.size, .cells #[.int .i64 p0, .slice A0 l0.length c0] 24), (w.heap.size + 1, .cells #[.int .i64 p1, .slice A1 l1.length c1] 24), (b6, .cells #[.int .i64 rp, .slice U ts.length uc] 28)] (fun k => k ≠ b6 ∧ k < w3.heap.size) U ts [] ((w3.setCell ⟨b6, 0, none⟩ (.int .i64 rp)).setCell ⟨b6, 1, none⟩ (.slice U ts.length uc)) from by
  have hge := HGE.out
  have hab := HA.out.2
  refine ⟨((below_step HB2.out HBC3.out).setCell (p := ⟨b6, 0, none⟩) (by show w.heap.size ≤ b6; omega) _).setCell (p := ⟨b6, 1, none⟩) (by show w.heap.size ≤ b6; omega) _, Below.refl _ _, fun b hb => ?_, Kd.F_step (Kd.F_mono (Kd.F_bound HFF.out.2) (fun k hk => (⟨hk.1.2, hk.2⟩ : k ≠ b6 ∧ k < w3.heap.size))) (fun k hk _ => (Below.heap_setCell _ _ _ k hk.1).trans (Below.heap_setCell _ _ _ k hk.1)), fun r hr => by cases hr⟩
  simp only [List.mem_cons, List.not_mem_nil, or_false] at hb
  rcases hb with rfl | rfl | rfl
  · exact (Below.heap_setCell _ _ _ _ (by show w.heap.size ≠ b6; omega)).trans ((Below.heap_setCell _ _ _ _ (by show w.heap.size ≠ b6; omega)).trans (blk_below HBK2.out.1 HBC3.out))
  · exact (Below.heap_setCell _ _ _ _ (by show w.heap.size + 1 ≠ b6; omega)).trans ((Below.heap_setCell _ _ _ _ (by show w.heap.size + 1 ≠ b6; omega)).trans (blk_below HBK2.out.2 HBC3.out))
  · refine blk_put (cs := #[.int .i64 rp, .slice none 0 0]) ?_ 1 _ rfl
    refine blk_put (cs := #[.int .i64 0, .slice none 0 0]) ?_ 0 _ rfl
    exact HA.out.1)
 have HO := am (show w.heap.size + 1 < w3.heap.size ∧ b6 < w3.heap.size ∧ w3.heap.size = ((w3.setCell ⟨b6, 0, none⟩ (.int .i64 rp)).setCell ⟨b6, 1, none⟩ (.slice U ts.length uc)).heap.size ∧ w.heap.size + 1 < b6 from
  ⟨Nat.lt_of_lt_of_le HGE.out HBC3.out.size, (Array.getElem?_eq_some_iff.1 HA.out.1).1, by simp, Nat.lt_of_lt_of_le HGE.out HA.out.2⟩)
 have HUC := am HFF.out.1
 clear HGE HA HFF HBC3 HBK2 HB2 HSS
 generalize (w3.setCell ⟨b6, 0, none⟩ (.int .i64 rp)).setCell ⟨b6, 1, none⟩ (.slice U ts.length uc) = W8 at *
 rw [HO.out.2.2.1] at HL
 have HW8 := am HL.out.old
 have hO8 := HO.out
 rw [hO8.2.2.1] at hO8
 have HO8 := am (show w.heap.size + 1 < W8.heap.size ∧ b6 < W8.heap.size ∧ w.heap.size + 1 < b6 from ⟨hO8.1, hO8.2.1, hO8.2.2.2⟩)
 clear HO hO8
 have hz0 := (blk_cell (HL.out.blk _ (List.mem_cons_self)) 0).trans (rfl : _ = some (Value.int .i64 p0))
 have hz1 := (blk_cell (HL.out.blk _ (List.mem_cons_self)) 1).trans (rfl : _ = some (Value.slice A0 l0.length c0))
 go_wp2_with fail
 go_must (refine (HTO0.out _ HL.out.old).mono ?_)
 rintro e wn ⟨u1, es1, rfl, hm1, ht1, hb⟩
 clear hz0 hz1
 have HR1 := am (blkT_range ht1)
 obtain ⟨D1, d1, rfl⟩ := ht1.slice
 have HM1 := am hm1
 replace HL := am (HL.out.add hb (.slice D1 es1.length d1) es1 (.cells #[.int .i64 p0, .slice D1 es1.length d1] 28) ht1)
 have HS1 := am (And.intro hb.size (size_al wn (.cells #[.int .i64 p0, .slice D1 es1.length d1] 28)))
 have hz2 := (blk_cell (HL.out.blk _ (List.mem_cons_of_mem _ (List.mem_cons_of_mem _ List.mem_cons_self))) 0).trans (rfl : _ = some (Value.int .i64 p1))
 have hz3 := (blk_cell (HL.out.blk _ (List.mem_cons_of_mem _ (List.mem_cons_of_mem _ List.mem_cons_self))) 1).trans (rfl : _ = some (Value.slice A1 l1.length c1))
 clear hm1 ht1 hb
 go_wp2_with fail
 generalize wn.alloc (.cells #[.int .i64 p0, .slice D1 es1.length d1] 28) = W9 at *
 generalize wn.heap.size = b8 at *
 go_must (refine (HTO1.out _ HL.out.old).mono ?_)
 rintro e wn ⟨u2, es2, rfl, hm2, ht2, hb⟩
 clear hz2 hz3
 have HR2 := am (blkT_range ht2)
 obtain ⟨D2, d2, rfl⟩ := ht2.slice
 have HM2 := am hm2
 replace HL := am (HL.out.add hb (.slice D2 es2.length d2) es2 (.cells #[.int .i64 p1, .slice D2 es2.length d2] 28) ht2)
 have HS2 := am (And.intro hb.size (size_al wn (.cells #[.int .i64 p1, .slice D2 es2.length d2] 28)))
 have hz0 := (blk_cell (HL.out.blk _ (List.mem_cons_of_mem _ List.mem_cons_self)) 0).trans (rfl : _ = some (Value.int .i64 p0))
 have hz1 := (blk_cell (HL.out.blk _ (List.mem_cons_of_mem _ List.mem_cons_self)) 1).trans (rfl : _ = some (Value.slice D1 es1.length d1))
 have hz2 := (blk_cell (HL.out.blk _ List.mem_cons_self) 0).trans (rfl : _ = some (Value.int .i64 p1))
 have hz3 := (blk_cell (HL.out.blk _ List.mem_cons_self) 1).trans (rfl : _ = some (Value.slice D2 es2.length d2))
 clear hm2 ht2 hb
 go_wp2_with fail
 generalize wn.alloc (.cells #[.int .i64 p1, .slice D2 es2.length d2] 28) = W10 at *
 generalize wn.heap.size = b9 at *
 have hf1 := (HL.out.rows _ (List.mem_cons_of_mem _ List.mem_cons_self)).foot HM1.out
 have hf2 := (HL.out.rows _ List.mem_cons_self).foot HM2.out
 have HIM := am (implC_any p0 p1 rp rc D1 D2 d1 d2 xs ys ts W10 HCI.out (Kd.F_now hf1.2.2) hf1.2.1 (Kd.F_now hf2.2.2) hf2.2.1)
 rw [← hf1.1, ← hf2.1] at HIM
 clear hf1 hf2
 go_must (refine HIM.out.mono ?_)
 rintro e wn ⟨u3, es3, rfl, hm3, ht3, hsm, hb⟩
 clear hz0 hz1 hz2 hz3 HIM
 have HR3 := am (blkT_range ht3)
 obtain ⟨D3, d3, rfl⟩ := ht3.slice
 have HM3 := am hm3
 have HSM := am hsm
 replace HL := am (HL.out.add hb (.slice D3 es3.length d3) es3 (.cells #[.int .i64 rp, .slice D3 es3.length d3] 28) ht3)
 have HS3 := am (And.intro hb.size (size_al wn (.cells #[.int .i64 rp, .slice D3 es3.length d3] 28)))
 have hz0 := (blk_cell (HL.out.blk _ List.mem_cons_self) 0).trans (rfl : _ = some (Value.int .i64 rp))
 have hz1 := (blk_cell (HL.out.blk _ List.mem_cons_self) 1).trans (rfl : _ = some (Value.slice D3 es3.length d3))
 have hz2 := (blk_cell (HL.out.blk (b6, .cells #[.int .i64 rp, .slice U ts.length uc] 28) (by simp)) 0).trans (rfl : _ = some (Value.int .i64 rp))
 have hz3 := (blk_cell (HL.out.blk (b6, .cells #[.int .i64 rp, .slice U ts.length uc] 28) (by simp)) 1).trans (rfl : _ = some (Value.slice U ts.length uc))
 clear hm3 ht3 hb hsm
 go_wp2_with fail
 generalize wn.alloc (.cells #[.int .i64 rp, .slice D3 es3.length d3] 28) = W11 at *
 generalize wn.heap.size = b10 at *
 clear hz0 hz1 hz2 hz3
 have HOR := am (show w.heap.size + 1 < W8.heap.size ∧ b6 < W8.heap.size ∧ W8.heap.size ≤ b8 ∧ b8 < b9 ∧ b9 < b10 from by
  have h1 := HO8.out; have h2 := HS1.out; have h3 := HS2.out; have h4 := HS3.out
  omega)
 have HQ1 := am (show ∀ k, blkT (.slice D1 es1.length d1) es1 k → W8.heap.size ≤ k ∧ k < b8 from HR1.out)
 have HQ2 := am (show ∀ k, blkT (.slice D2 es2.length d2) es2 k → b8 < k ∧ k < b9 from fun k hk => by have h := HR2.out k hk; have h2 := HS1.out; omega)
 have HQ3 := am (show ∀ k, blkT (.slice D3 es3.length d3) es3 k → b9 < k ∧ k < b10 from fun k hk => by have h := HR3.out k hk; have h2 := HS2.out; omega)
 have HN1 := am (show es1.length = xs.length from by have := congrArg List.length HM1.out; rwa [List.length_map] at this)
 have HN2 := am (show es2.length = ys.length from by have := congrArg List.length HM2.out; rwa [List.length_map] at this)
 have HN3 := am (show es3.length = ts.length from by have := congrArg List.length HM3.out; rwa [List.length_map] at this)
 have hsl : lenT ts ≤ 1000000000000000 / 8 := Nat.le_trans (lenT_le HSM.out) (Nat.le_trans (Nat.mul_le_mul_right _ htl) (by decide))
 have htw : ∀ t ∈ ts, t.f0.length ≤ 1000000000000 := fun t ht => Nat.le_trans (HSM.out t ht) (by decide)
 have HC3 := am (fun W (base : Nat) (h : TRow W base (.slice D3 es3.length d3) es3) => h.foot HM3.out)
 have HC1 := am (fun W (base : Nat) (h : TRow W base (.slice D1 es1.length d1) es1) => h.foot HM1.out)
 have HC2 := am (fun W (base : Nat) (h : TRow W base (.slice D2 es2.length d2) es2) => h.foot HM2.out)
 have HEQ := am (fun W (base : Nat) (h : TRow W base (.slice D3 es3.length d3) es3) (ok : Nat → Prop) (hf : Kd.F k65 W ok U ts.length ts) => eqSum_any' rp ts D3 U es3.length ts.length d3 uc W HN3.out rfl (by omega) htw (Kd.F_now (h.foot HM3.out).2.2) (h.foot HM3.out).2.1 (Kd.F_now hf) HUC.out)
 clear HR1 HR2 HR3 HS1 HS2 HS3
 go_must (refine (HEQ.out _ _ (HL.out.rows _ List.mem_cons_self) _ HL.out.foot).mono ?_)
 rintro e w12 ⟨rfl, hb⟩
 replace HL := am (HL.out.below hb)
 clear hb
 go_wp2_with fail
 have HBC := am (below_drew (Below.refl w12.heap.size w12))
 have HCL := am (fun W (hb : Below w12.heap.size w12 W) => show W.cell? ⟨b8, 0, none⟩ = some (.int .i64 p0) ∧ W.cell? ⟨b8, 1, none⟩ = some (.slice D1 es1.length d1) ∧ W.cell? ⟨w.heap.size, 0, none⟩ = some (.int .i64 p0) ∧ W.cell? ⟨w.heap.size, 1, none⟩ = some (.slice A0 l0.length c0) from
  ⟨(blk_cell ((HL.out.below hb).blk (b8, .cells #[.int .i64 p0, .slice D1 es1.length d1] 28) (by simp)) 0).trans rfl, (blk_cell ((HL.out.below hb).blk (b8, .cells #[.int .i64 p0, .slice D1 es1.length d1] 28) (by simp)) 1).trans rfl, (blk_cell ((HL.out.below hb).blk (w.heap.size, .cells #[.int .i64 p0, .slice A0 l0.length c0] 24) (by simp)) 0).trans rfl, (blk_cell ((HL.out.below hb).blk (w.heap.size, .cells #[.int .i64 p0, .slice A0 l0.length c0] 24) (by simp)) 1).trans rfl⟩)
 refine start_ (n := 5) (S := fun w' => w'.cell? ⟨b8, 0, none⟩ = some (.int .i64 p0) ∧ w'.cell? ⟨b8, 1, none⟩ = some (.slice D1 es1.length d1) ∧ w'.cell? ⟨w.heap.size, 0, none⟩ = some (.int .i64 p0) ∧ w'.cell? ⟨w.heap.size, 1, none⟩ = some (.slice A0 l0.length c0)) (ds := [3]) (bs 0 5) (by kernel_rfl) rfl rfl (HCL.out _ HBC.out) (fun hHeld => ?_)
 generalize w12.drew = wz at HBC hHeld ⊢
 refine take_ (i := 0) (N := (some 54)) (v := ?_) (a' := ?_) (bs 1 5) rfl rfl (by kernel_rfl) (fun _ _ _ h => h) (Or.inl ⟨by rfl, ?_⟩) hHeld ?_ ?_; rotate_left; rintro w' ⟨s0, s1, s2, s3⟩; go_simp; with_reducible rfl; rotate_left; simp only [Act.put, qq1, qq2, qq3, i64_w, i32_w]; rfl
 refine take_ (i := 1) (N := (some 55)) (v := ?_) (a' := ?_) (bs 3 5) rfl rfl (by kernel_rfl) (fun _ _ _ h => h) (Or.inl ⟨by rfl, ?_⟩) hHeld ?_ ?_; rotate_left; rintro w' ⟨s0, s1, s2, s3⟩; go_simp; with_reducible rfl; rotate_left; simp only [Act.put, qq1, qq2, qq3, i64_w, i32_w]; rfl
 refine one_ (i := 2) (N := (some 56)) (bs 7 5) rfl rfl (by kernel_rfl) (by decide) (fun K hK => ?_)
 refine goes_ Try.func8 (by kernel_rfl) rfl #[.agg #[.int .i64 p0, .slice A0 l0.length c0]] (by rfl) rfl rfl (by (try simp only [List.map_toArray, List.map_cons, List.map_nil]); rfl) ?_
 refine (HTO0.out _ (HL.out.below HBC.out).old).mono ?_
 rintro e wy ⟨v9, fs9, rfl, hm, ht, hb⟩
 refine ⟨_, rfl, ?_⟩
 obtain ⟨Y, y, rfl⟩ := ht.slice
 have HY := am (ht.foot hm)
 replace HBC := am (below_step HBC.out hb)
 clear hm ht hb
 refine hK.out _ _ (HCL.out _ HBC.out) (fun hHeld => ?_)
 clear hK K
 refine norm_ (a' := ?_) ?_ ?_; rotate_left; show Act.put _ (some 56) _ = _; simp only [Act.put, qq1, qq2, qq3, i64_w, i32_w]; rfl
 refine last_ (i := 3) (N := (some 57)) (bs 15 5) rfl rfl (by kernel_rfl) (by decide) (fun K hK => ?_)
 refine goes_ Try.func10 (by kernel_rfl) rfl #[.agg #[.int .i64 p0, .slice D1 es1.length d1], .agg #[.int .i64 p0, .slice Y fs9.length y]] (by rfl) rfl rfl (by (try simp only [List.map_toArray, List.map_cons, List.map_nil]); rfl) ?_
 refine (eqSum_any' p0 xs D1 Y es1.length fs9.length d1 y wy HN1.out HY.out.1 (by omega) (fun t ht => Nat.le_trans (hxw t ht) (by decide)) (Kd.F_now (HC1.out _ _ ((HL.out.below HBC.out).rows (.slice D1 es1.length d1, es1) (by simp))).2.2) (HC1.out _ _ ((HL.out.below HBC.out).rows (.slice D1 es1.length d1, es1) (by simp))).2.1 (Kd.F_now HY.out.2.2) HY.out.2.1).mono ?_
 rintro e w13 ⟨rfl, hb⟩
 refine ⟨_, rfl, ?_⟩
 replace HL := am (HL.out.below (below_step HBC.out hb))
 clear hb HCL HBC HY
 refine hK.out _ _ ?_
 clear hK K
 refine norm_ (a' := ?_) ?_ ?_; rotate_left; show Act.put _ (some 57) _ = _; simp only [Act.put, qq1, qq2, qq3, i64_w, i32_w]; rfl
 refine pure_ (i := 4) (N := (some 58)) (v := ?_) (a' := ?_) (bs 31 5) rfl rfl (by kernel_rfl) (fun _ _ _ h => h) (Or.inl ⟨by rfl, ?_⟩) ?_ ?_; rotate_left; intro w'; go_simp; with_reducible rfl; rotate_left; simp only [Act.put, qq1, qq2, qq3, i64_w, i32_w]; rfl
 refine done_ (by kernel_rfl) ?_
 go_wp2_with fail
 have HBC := am (below_drew (Below.refl w13.heap.size w13))
 have HCL := am (fun W (hb : Below w13.heap.size w13 W) => show W.cell? ⟨b9, 0, none⟩ = some (.int .i64 p1) ∧ W.cell? ⟨b9, 1, none⟩ = some (.slice D2 es2.length d2) ∧ W.cell? ⟨w.heap.size + 1, 0, none⟩ = some (.int .i64 p1) ∧ W.cell? ⟨w.heap.size + 1, 1, none⟩ = some (.slice A1 l1.length c1) from
  ⟨(blk_cell ((HL.out.below hb).blk (b9, .cells #[.int .i64 p1, .slice D2 es2.length d2] 28) (by simp)) 0).trans rfl, (blk_cell ((HL.out.below hb).blk (b9, .cells #[.int .i64 p1, .slice D2 es2.length d2] 28) (by simp)) 1).trans rfl, (blk_cell ((HL.out.below hb).blk (w.heap.size + 1, .cells #[.int .i64 p1, .slice A1 l1.length c1] 24) (by simp)) 0).trans rfl, (blk_cell ((HL.out.below hb).blk (w.heap.size + 1, .cells #[.int .i64 p1, .slice A1 l1.length c1] 24) (by simp)) 1).trans rfl⟩)
 refine start_ (n := 5) (S := fun w' => w'.cell? ⟨b9, 0, none⟩ = some (.int .i64 p1) ∧ w'.cell? ⟨b9, 1, none⟩ = some (.slice D2 es2.length d2) ∧ w'.cell? ⟨w.heap.size + 1, 0, none⟩ = some (.int .i64 p1) ∧ w'.cell? ⟨w.heap.size + 1, 1, none⟩ = some (.slice A1 l1.length c1)) (ds := [3]) (bs 0 5) (by kernel_rfl) rfl rfl (HCL.out _ HBC.out) (fun hHeld => ?_)
 generalize w13.drew = wz at HBC hHeld ⊢
 refine take_ (i := 0) (N := (some 59)) (v := ?_) (a' := ?_) (bs 1 5) rfl rfl (by kernel_rfl) (fun _ _ _ h => h) (Or.inl ⟨by rfl, ?_⟩) hHeld ?_ ?_; rotate_left; rintro w' ⟨s0, s1, s2, s3⟩; go_simp; with_reducible rfl; rotate_left; simp only [Act.put, qq1, qq2, qq3, i64_w, i32_w]; rfl
 refine take_ (i := 1) (N := (some 60)) (v := ?_) (a' := ?_) (bs 3 5) rfl rfl (by kernel_rfl) (fun _ _ _ h => h) (Or.inl ⟨by rfl, ?_⟩) hHeld ?_ ?_; rotate_left; rintro w' ⟨s0, s1, s2, s3⟩; go_simp; with_reducible rfl; rotate_left; simp only [Act.put, qq1, qq2, qq3, i64_w, i32_w]; rfl
 refine one_ (i := 2) (N := (some 61)) (bs 7 5) rfl rfl (by kernel_rfl) (by decide) (fun K hK => ?_)
 refine goes_ Try.func8 (by kernel_rfl) rfl #[.agg #[.int .i64 p1, .slice A1 l1.length c1]] (by rfl) rfl rfl (by (try simp only [List.map_toArray, List.map_cons, List.map_nil]); rfl) ?_
 refine (HTO1.out _ (HL.out.below HBC.out).old).mono ?_
 rintro e wy ⟨v9, fs9, rfl, hm, ht, hb⟩
 refine ⟨_, rfl, ?_⟩
 obtain ⟨Y, y, rfl⟩ := ht.slice
 have HY := am (ht.foot hm)
 replace HBC := am (below_step HBC.out hb)
 clear hm ht hb
 refine hK.out _ _ (HCL.out _ HBC.out) (fun hHeld => ?_)
 clear hK K
 refine norm_ (a' := ?_) ?_ ?_; rotate_left; show Act.put _ (some 61) _ = _; simp only [Act.put, qq1, qq2, qq3, i64_w, i32_w]; rfl
 refine last_ (i := 3) (N := (some 62)) (bs 15 5) rfl rfl (by kernel_rfl) (by decide) (fun K hK => ?_)
 refine goes_ Try.func10 (by kernel_rfl) rfl #[.agg #[.int .i64 p1, .slice D2 es2.length d2], .agg #[.int .i64 p1, .slice Y fs9.length y]] (by rfl) rfl rfl (by (try simp only [List.map_toArray, List.map_cons, List.map_nil]); rfl) ?_
 refine (eqSum_any' p1 ys D2 Y es2.length fs9.length d2 y wy HN2.out HY.out.1 (by omega) (fun t ht => Nat.le_trans (hyw t ht) (by decide)) (Kd.F_now (HC2.out _ _ ((HL.out.below HBC.out).rows (.slice D2 es2.length d2, es2) (by simp))).2.2) (HC2.out _ _ ((HL.out.below HBC.out).rows (.slice D2 es2.length d2, es2) (by simp))).2.1 (Kd.F_now HY.out.2.2) HY.out.2.1).mono ?_
 rintro e w14 ⟨rfl, hb⟩
 refine ⟨_, rfl, ?_⟩
 replace HL := am (HL.out.below (below_step HBC.out hb))
 clear hb HCL HBC HY
 refine hK.out _ _ ?_
 clear hK K
 refine norm_ (a' := ?_) ?_ ?_; rotate_left; show Act.put _ (some 62) _ = _; simp only [Act.put, qq1, qq2, qq3, i64_w, i32_w]; rfl
 refine pure_ (i := 4) (N := (some 63)) (v := ?_) (a' := ?_) (bs 31 5) rfl rfl (by kernel_rfl) (fun _ _ _ h => h) (Or.inl ⟨by rfl, ?_⟩) ?_ ?_; rotate_left; intro w'; go_simp; with_reducible rfl; rotate_left; simp only [Act.put, qq1, qq2, qq3, i64_w, i32_w]; rfl
 refine done_ (by kernel_rfl) ?_
 have hz0 := (blk_cell (HL.out.blk (b8, .cells #[.int .i64 p0, .slice D1 es1.length d1] 28) (by simp)) 0).trans (rfl : _ = some (Value.int .i64 p0))
 have hz1 := (blk_cell (HL.out.blk (b8, .cells #[.int .i64 p0, .slice D1 es1.length d1] 28) (by simp)) 1).trans (rfl : _ = some (Value.slice D1 es1.length d1))
 go_wp2_with fail
 clear hz0 hz1
 have hmk := markSum_any p0 (.slice D1 es1.length d1) es1 1 W8 w14 HL.out.mid (HL.out.rows (.slice D1 es1.length d1, es1) (by simp)) (by omega) (by rw [HM1.out]; omega) (by have := HN1.out; omega)
 rw [HM1.out] at hmk
 have HMK := am hmk
 clear hmk
 go_must (refine HMK.out.mono ?_)
 rintro e w15 ⟨rfl, hr, hb, hk⟩
 replace HL := am (LawSt.mark (rows' := [(.slice D3 es3.length d3, es3), (.slice D2 es2.length d2, es2)]) HW8.out HL.out hb hk
  (fun b hm hs => by
   have h1 := HQ1.out _ hs
   have h2 := HOR.out
   simp only [List.mem_cons, List.not_mem_nil, or_false] at hm
   rcases hm with rfl | rfl | rfl | rfl | rfl | rfl <;> simp only at h1 <;> omega)
  (fun j ho hs => by
   have h1 := HQ1.out _ hs
   have h2 := HOR.out
   have h3 := ho.2
   omega)
  (fun r hm => by
   simp only [List.mem_cons, List.not_mem_nil, or_false] at hm
   rcases hm with rfl | rfl
   · refine .inr ⟨by simp, fun j hj hs => ?_⟩
     have h1 := HQ1.out _ hs
     have h2 := HOR.out
     have h3 := HQ3.out _ hj
     omega
   · refine .inr ⟨by simp, fun j hj hs => ?_⟩
     have h1 := HQ1.out _ hs
     have h2 := HOR.out
     have h3 := HQ2.out _ hj
     omega))
 clear hr hb hk HMK
 have hz0 := (blk_cell (HL.out.blk (b9, .cells #[.int .i64 p1, .slice D2 es2.length d2] 28) (by simp)) 0).trans (rfl : _ = some (Value.int .i64 p1))
 have hz1 := (blk_cell (HL.out.blk (b9, .cells #[.int .i64 p1, .slice D2 es2.length d2] 28) (by simp)) 1).trans (rfl : _ = some (Value.slice D2 es2.length d2))
 go_wp2_with fail
 clear hz0 hz1
 have hmk := markSum_any p1 (.slice D2 es2.length d2) es2 (1 + (lenT xs : Int)) W8 w15 HL.out.mid (HL.out.rows (.slice D2 es2.length d2, es2) (by simp)) (by omega) (by rw [HM2.out]; omega) (by have := HN2.out; omega)
 rw [HM2.out] at hmk
 have HMK := am hmk
 clear hmk
 go_must (refine HMK.out.mono ?_)
 rintro e w16 ⟨rfl, hr, hb, hk⟩
 replace HL := am (LawSt.mark (rows' := [(.slice D3 es3.length d3, es3)]) HW8.out HL.out hb hk
  (fun b hm hs => by
   have h1 := HQ2.out _ hs
   have h2 := HOR.out
   simp only [List.mem_cons, List.not_mem_nil, or_false] at hm
   rcases hm with rfl | rfl | rfl | rfl | rfl | rfl <;> simp only at h1 <;> omega)
  (fun j ho hs => by
   have h1 := HQ2.out _ hs
   have h2 := HOR.out
   have h3 := ho.2
   omega)
  (fun r hm => by
   simp only [List.mem_cons, List.not_mem_nil, or_false] at hm
   obtain rfl := hm
   · refine .inr ⟨by simp, fun j hj hs => ?_⟩
     have h1 := HQ2.out _ hs
     have h2 := HOR.out
     have h3 := HQ3.out _ hj
     omega))
 clear hr hb hk HMK
 have hz0 := (blk_cell (HL.out.blk (b10, .cells #[.int .i64 rp, .slice D3 es3.length d3] 28) (by simp)) 0).trans (rfl : _ = some (Value.int .i64 rp))
 have hz1 := (blk_cell (HL.out.blk (b10, .cells #[.int .i64 rp, .slice D3 es3.length d3] 28) (by simp)) 1).trans (rfl : _ = some (Value.slice D3 es3.length d3))
 have hy0 := (blk_cell (HL.out.blk (b6, .cells #[.int .i64 rp, .slice U ts.length uc] 28) (by simp)) 0).trans (rfl : _ = some (Value.int .i64 rp))
 have hy1 := (blk_cell (HL.out.blk (b6, .cells #[.int .i64 rp, .slice U ts.length uc] 28) (by simp)) 1).trans (rfl : _ = some (Value.slice U ts.length uc))
 have hm1 : decide (1 + (lenT xs : Int) + (lenT ys : Int) < 0) = false := decide_eq_false (by omega)
 go_wp2_with fail
 clear hz0 hz1 hy0 hy1 hm1
 go_must (refine (HEQ.out _ _ (HL.out.rows _ List.mem_cons_self) _ HL.out.foot).mono ?_)
 rintro e w17 ⟨rfl, hb⟩
 replace HL := am (HL.out.below hb)
 clear hb
 have hz0 := (blk_cell (HL.out.blk (b10, .cells #[.int .i64 rp, .slice D3 es3.length d3] 28) (by simp)) 0).trans (rfl : _ = some (Value.int .i64 rp))
 have hz1 := (blk_cell (HL.out.blk (b10, .cells #[.int .i64 rp, .slice D3 es3.length d3] 28) (by simp)) 1).trans (rfl : _ = some (Value.slice D3 es3.length d3))
 go_wp2_with fail
 clear hz0 hz1
 have hmk := markSum_any rp (.slice D3 es3.length d3) es3 1 W8 w17 HL.out.mid (HL.out.rows (.slice D3 es3.length d3, es3) (by simp)) (by omega) (by rw [HM3.out]; omega) (by have := HN3.out; omega)
 rw [HM3.out] at hmk
 have HMK := am hmk
 clear hmk
 go_must (refine HMK.out.mono ?_)
 rintro e w18 ⟨rfl, hr, hb, hk⟩
 replace HL := am (LawSt.mark (rows' := [(.slice D3 es3.length d3, marksE 1 es3)]) HW8.out HL.out hb hk
  (fun b hm hs => by
   have h1 := HQ3.out _ hs
   have h2 := HOR.out
   simp only [List.mem_cons, List.not_mem_nil, or_false] at hm
   rcases hm with rfl | rfl | rfl | rfl | rfl | rfl <;> simp only at h1 <;> omega)
  (fun j ho hs => by
   have h1 := HQ3.out _ hs
   have h2 := HOR.out
   have h3 := ho.2
   omega)
  (fun r hm => by
   simp only [List.mem_cons, List.not_mem_nil, or_false] at hm
   obtain rfl := hm
   · exact .inl hr))
 clear hr hb hk HMK
 have HHE := am (fun W (h : TRow W W8.heap.size (.slice D3 es3.length d3) (marksE 1 es3)) => heldSum_any rp (.slice D3 es3.length d3) es3 W h (by rw [HM3.out]; omega) (by have := HN3.out; omega))
 rw [HM3.out] at HHE
 have hz0 := (blk_cell (HL.out.blk (b10, .cells #[.int .i64 rp, .slice D3 es3.length d3] 28) (by simp)) 0).trans (rfl : _ = some (Value.int .i64 rp))
 have hz1 := (blk_cell (HL.out.blk (b10, .cells #[.int .i64 rp, .slice D3 es3.length d3] 28) (by simp)) 1).trans (rfl : _ = some (Value.slice D3 es3.length d3))
 go_wp2_with fail
 clear hz0 hz1
 go_must (refine (HHE.out _ (HL.out.rows _ List.mem_cons_self)).mono ?_)
 rintro e w19 ⟨rfl, hb⟩
 replace HL := am (HL.out.below hb)
 have hm1 : decide (1 + (lenT ts : Int) < 0) = false := decide_eq_false (by omega)
 clear hb
 go_wp2_with fail
 clear hm1
 have HSS2 := am (fun W (hb : Below w19.heap.size w19 W) => show W.cell? ⟨w.heap.size, 0, none⟩ = some (.int .i64 p0) ∧ W.cell? ⟨w.heap.size, 1, none⟩ = some (.slice A0 l0.length c0) ∧ W.cell? ⟨w.heap.size + 1, 0, none⟩ = some (.int .i64 p1) ∧ W.cell? ⟨w.heap.size + 1, 1, none⟩ = some (.slice A1 l1.length c1) from
  ⟨(blk_cell ((HL.out.below hb).blk (w.heap.size, .cells #[.int .i64 p0, .slice A0 l0.length c0] 24) (by simp)) 0).trans rfl, (blk_cell ((HL.out.below hb).blk (w.heap.size, .cells #[.int .i64 p0, .slice A0 l0.length c0] 24) (by simp)) 1).trans rfl, (blk_cell ((HL.out.below hb).blk (w.heap.size + 1, .cells #[.int .i64 p1, .slice A1 l1.length c1] 24) (by simp)) 0).trans rfl, (blk_cell ((HL.out.below hb).blk (w.heap.size + 1, .cells #[.int .i64 p1, .slice A1 l1.length c1] 24) (by simp)) 1).trans rfl⟩)
 have HBC := am (below_drew (Below.refl w19.heap.size w19))
 refine start_ (n := 11) (S := fun w' => w'.cell? ⟨w.heap.size, 0, none⟩ = some (.int .i64 p0) ∧ w'.cell? ⟨w.heap.size, 1, none⟩ = some (.slice A0 l0.length c0) ∧ w'.cell? ⟨w.heap.size + 1, 0, none⟩ = some (.int .i64 p1) ∧ w'.cell? ⟨w.heap.size + 1, 1, none⟩ = some (.slice A1 l1.length c1)) (ds := [9,10]) (bs 0 11) (by kernel_rfl) rfl rfl (HSS2.out _ HBC.out) (fun hHeld => ?_)
 generalize w19.drew = wz at HBC hHeld ⊢
 refine take_ (i := 0) (N := (some 95)) (v := ?_) (a' := ?_) (bs 1 11) rfl rfl (by kernel_rfl) (fun _ _ _ h => h) (Or.inl ⟨by rfl, ?_⟩) hHeld ?_ ?_; rotate_left; rintro w' ⟨s0, s1, s2, s3⟩; go_simp; with_reducible rfl; rotate_left; simp only [Act.put, qq1, qq2, qq3, i64_w, i32_w]; rfl
 refine take_ (i := 2) (N := (some 97)) (v := ?_) (a' := ?_) (bs 5 11) rfl rfl (by kernel_rfl) (fun _ _ _ h => h) (Or.inl ⟨by rfl, ?_⟩) hHeld ?_ ?_; rotate_left; rintro w' ⟨s0, s1, s2, s3⟩; go_simp; with_reducible rfl; rotate_left; simp only [Act.put, qq1, qq2, qq3, i64_w, i32_w]; rfl
 refine join_ (σ := Option Addr × Nat × Option Addr × Nat × Option Addr × Nat × Nat) 2 (bs 511 11) (fun s_ => [(96, .agg #[.int .i64 p0, .slice s_.1 xs.length s_.2.1]), (98, .agg #[.int .i64 p1, .slice s_.2.2.1 ys.length s_.2.2.2.1]), (99, .tuple #[.agg #[.int .i64 rp, .slice s_.2.2.2.2.1 ts.length s_.2.2.2.2.2.1], .int .i64 rc]), (94, .tuple #[.agg #[.int .i64 rp, .slice s_.2.2.2.2.1 ts.length s_.2.2.2.2.2.1], .int .i64 rc]), (100, .agg #[.int .i64 rp, .slice s_.2.2.2.2.1 ts.length s_.2.2.2.2.2.1]), (101, .int .i64 rc), (15, .pointer (some ⟨s_.2.2.2.2.2.2, 0, none⟩))]) (fun s_ w' => (w'.cell? ⟨w.heap.size, 0, none⟩ = some (.int .i64 p0) ∧ w'.cell? ⟨w.heap.size, 1, none⟩ = some (.slice A0 l0.length c0) ∧ w'.cell? ⟨w.heap.size + 1, 0, none⟩ = some (.int .i64 p1) ∧ w'.cell? ⟨w.heap.size + 1, 1, none⟩ = some (.slice A1 l1.length c1)) ∧ Below w19.heap.size w19 w' ∧ (w'.heap[s_.2.2.2.2.2.2]? = some (.cells #[.int .i64 0, .slice none 0 0] 28 (0, 0)) ∧ w19.heap.size ≤ s_.2.2.2.2.2.2) ∧ (ts.length ≤ s_.2.2.2.2.2.1 ∧ Kd.F k65 w' (fun k => w19.heap.size ≤ k ∧ k ≠ s_.2.2.2.2.2.2) s_.2.2.2.2.1 ts.length ts)) ?_ ?_
 rotate_left
 · intro hCont
   refine two_ (i := 1) (j := 8) (Ni := (some 96)) (Nj := (some 15)) (bs 7 11) (bs 261 11) rfl rfl rfl rfl (by kernel_rfl) (by decide) (by decide) (fun K hK => ?_) (fun K hK => ?_)
   · skip
     refine goes_ Try.func8 (by kernel_rfl) rfl #[.agg #[.int .i64 p0, .slice A0 l0.length c0]] (by rfl) rfl rfl (by (try simp only [List.map_toArray, List.map_cons, List.map_nil]); rfl) ?_
     refine (HTO0.out _ (below_step HL.out.old HBC.out)).mono ?_
     rintro e wn ⟨v1, fs1, rfl, hm, ht, hb⟩
     refine ⟨_, rfl, ?_⟩
     replace HBC := am (below_step HBC.out hb)
     obtain ⟨Y1, y1, rfl⟩ := ht.slice
     obtain ⟨e1, e2, e3⟩ := ht.foot hm
     rw [e1] at *
     have HY1 := am (And.intro e2 (Kd.F_now e3))
     clear hm ht hb e1 e2 e3
     refine hK.out _ _ (HSS2.out _ HBC.out) (fun hHeld => ?_)
     clear hK K
     refine norm_ (a' := ?_) ?_ ?_; rotate_left; show Act.put _ (some 96) _ = _; simp only [Act.put, qq1, qq2, qq3, i64_w, i32_w]; rfl
     refine two_ (i := 3) (j := 8) (Ni := (some 98)) (Nj := (some 15)) (bs 15 11) (bs 263 11) rfl rfl rfl rfl (by kernel_rfl) (by decide) (by decide) (fun K hK => ?_) (fun K hK => ?_)
     · skip
       refine goes_ Try.func8 (by kernel_rfl) rfl #[.agg #[.int .i64 p1, .slice A1 l1.length c1]] (by rfl) rfl rfl (by (try simp only [List.map_toArray, List.map_cons, List.map_nil]); rfl) ?_
       refine (HTO1.out _ (below_step HL.out.old HBC.out)).mono ?_
       rintro e wn ⟨v2, fs2, rfl, hm, ht, hb⟩
       refine ⟨_, rfl, ?_⟩
       replace HY1 := am (And.intro HY1.out.1 (Kd.C_below HY1.out.2 hb))
       replace HBC := am (below_step HBC.out hb)
       obtain ⟨Y2, y2, rfl⟩ := ht.slice
       obtain ⟨e1, e2, e3⟩ := ht.foot hm
       rw [e1] at *
       have HY2 := am (And.intro e2 (Kd.F_now e3))
       clear hm ht hb e1 e2 e3
       refine hK.out _ _ (HSS2.out _ HBC.out) (fun hHeld => ?_)
       clear hK K
       refine norm_ (a' := ?_) ?_ ?_; rotate_left; show Act.put _ (some 98) _ = _; simp only [Act.put, qq1, qq2, qq3, i64_w, i32_w]; rfl
       refine two_ (i := 4) (j := 8) (Ni := (some 99)) (Nj := (some 15)) (bs 31 11) (bs 271 11) rfl rfl rfl rfl (by kernel_rfl) (by decide) (by decide) (fun K hK => ?_) (fun K hK => ?_)
       · skip
         refine goes_ Try.func9 (by kernel_rfl) rfl #[.agg #[.int .i64 p0, .slice Y1 xs.length y1], .agg #[.int .i64 p1, .slice Y2 ys.length y2]] (by rfl) rfl rfl (by (try simp only [List.map_toArray, List.map_cons, List.map_nil]); rfl) ?_
         have hsz := HBC.out.size
         refine (implCF_any p0 p1 rp rc Y1 Y2 y1 y2 xs ys ts _ HCI.out HY1.out.2 HY1.out.1 HY2.out.2 HY2.out.1).mono ?_
         rintro e wn ⟨V, vc, rfl, hl, hf, hb⟩
         refine ⟨_, rfl, ?_⟩
         have HFF := am (And.intro hl (Kd.F_mono hf (fun k hk => Nat.le_trans hsz hk)))
         replace HY1 := am (And.intro HY1.out.1 (Kd.C_below HY1.out.2 hb))
         replace HY2 := am (And.intro HY2.out.1 (Kd.C_below HY2.out.2 hb))
         replace HBC := am (below_step HBC.out hb)
         clear hl hf hb hsz
         refine hK.out _ _ (HSS2.out _ HBC.out) (fun hHeld => ?_)
         clear hK K
         refine norm_ (a' := ?_) ?_ ?_; rotate_left; show Act.put _ (some 99) _ = _; simp only [Act.put, qq1, qq2, qq3, i64_w, i32_w]; rfl
         refine pure_ (i := 5) (N := (some 94)) (v := ?_) (a' := ?_) (bs 63 11) rfl rfl (by kernel_rfl) (fun _ _ _ h => h) (Or.inl ⟨by rfl, ?_⟩) ?_ ?_; rotate_left; intro w'; go_simp; with_reducible rfl; rotate_left; simp only [Act.put, qq1, qq2, qq3, i64_w, i32_w]; rfl
         refine pure_ (i := 6) (N := (some 100)) (v := ?_) (a' := ?_) (bs 127 11) rfl rfl (by kernel_rfl) (fun _ _ _ h => h) (Or.inl ⟨by rfl, ?_⟩) ?_ ?_; rotate_left; intro w'; go_simp; with_reducible rfl; rotate_left; simp only [Act.put, qq1, qq2, qq3, i64_w, i32_w]; rfl
         refine pure_ (i := 7) (N := (some 101)) (v := ?_) (a' := ?_) (bs 255 11) rfl rfl (by kernel_rfl) (fun _ _ _ h => h) (Or.inl ⟨by rfl, ?_⟩) ?_ ?_; rotate_left; intro w'; go_simp; with_reducible rfl; rotate_left; simp only [Act.put, qq1, qq2, qq3, i64_w, i32_w]; rfl
         refine one_ (i := 8) (N := (some 15)) (bs 511 11) rfl rfl (by kernel_rfl) (by decide) (fun K hK => ?_)
         refine box_step ?hg (N := 15) ?hd (cs := #[.int .i64 0, .slice none 0 0]) (t := 28) ?hr ?_; (case hd => rfl); (case hg => rfl); (case hr => first | (go_simp; done) | (go_simp; rfl))
         intro b15 hg wn hbox hb
         have hsz := HBC.out.size
         have HA0 := am (And.intro hbox (show w19.heap.size ≤ b15 by omega))
         replace HFF := am (And.intro HFF.out.1 (Kd.F_mono (Kd.F_bound HFF.out.2) (fun k hk => (⟨hk.1, by have := hk.2; omega⟩ : w19.heap.size ≤ k ∧ k ≠ b15))))
         replace HY1 := am (And.intro HY1.out.1 (Kd.C_below HY1.out.2 hb))
         replace HY2 := am (And.intro HY2.out.1 (Kd.C_below HY2.out.2 hb))
         replace HFF := am (And.intro HFF.out.1 (Kd.F_below HFF.out.2 hb))
         replace HBC := am (below_step HBC.out hb)
         have HA := HA0
         clear hg hbox hb hsz HA0
         refine hK.out _ _ (HSS2.out _ HBC.out) (fun hHeld => ?_)
         clear hK K
         refine norm_ (a' := ?_) ?_ ?_; rotate_left; show Act.put _ (some 15) _ = _; simp only [Act.put, qq1, qq2, qq3, i64_w, i32_w]; rfl
         refine norm_ (by simp only [putAll, Act.put, qq1, qq2, qq3]) (hCont (Y1, y1, Y2, y2, V, vc, b15) _ ?_)
         exact ⟨hHeld, HBC.out, HA.out, HFF.out⟩
       · skip
         refine box_step ?hg (N := 15) ?hd (cs := #[.int .i64 0, .slice none 0 0]) (t := 28) ?hr ?_; (case hd => rfl); (case hg => rfl); (case hr => first | (go_simp; done) | (go_simp; rfl))
         intro b15 hg wn hbox hb
         have hsz := HBC.out.size
         have HA0 := am (And.intro hbox (show w19.heap.size ≤ b15 by omega))
         replace HY1 := am (And.intro HY1.out.1 (Kd.C_below HY1.out.2 hb))
         replace HY2 := am (And.intro HY2.out.1 (Kd.C_below HY2.out.2 hb))
         replace HBC := am (below_step HBC.out hb)
         have HA := HA0
         clear hg hbox hb hsz HA0
         refine hK.out _ _ (HSS2.out _ HBC.out) (fun hHeld => ?_)
         clear hK K
         refine norm_ (a' := ?_) ?_ ?_; rotate_left; show Act.put _ (some 15) _ = _; simp only [Act.put, qq1, qq2, qq3, i64_w, i32_w]; rfl
         refine one_ (i := 4) (N := (some 99)) (bs 287 11) rfl rfl (by kernel_rfl) (by decide) (fun K hK => ?_)
         refine goes_ Try.func9 (by kernel_rfl) rfl #[.agg #[.int .i64 p0, .slice Y1 xs.length y1], .agg #[.int .i64 p1, .slice Y2 ys.length y2]] (by rfl) rfl rfl (by (try simp only [List.map_toArray, List.map_cons, List.map_nil]); rfl) ?_
         have hsz := HBC.out.size
         refine (implCF_any p0 p1 rp rc Y1 Y2 y1 y2 xs ys ts _ HCI.out HY1.out.2 HY1.out.1 HY2.out.2 HY2.out.1).mono ?_
         rintro e wn ⟨V, vc, rfl, hl, hf, hb⟩
         refine ⟨_, rfl, ?_⟩
         have HFF := am (And.intro hl (Kd.F_mono hf (fun k hk => (⟨Nat.le_trans hsz hk, fun hh => by have := (Array.getElem?_eq_some_iff.1 HA.out.1).1; omega⟩ : w19.heap.size ≤ k ∧ k ≠ b15))))
         replace HA := am (And.intro (blk_below HA.out.1 hb) HA.out.2)
         replace HY1 := am (And.intro HY1.out.1 (Kd.C_below HY1.out.2 hb))
         replace HY2 := am (And.intro HY2.out.1 (Kd.C_below HY2.out.2 hb))
         replace HBC := am (below_step HBC.out hb)
         clear hl hf hb hsz
         refine hK.out _ _ (HSS2.out _ HBC.out) (fun hHeld => ?_)
         clear hK K
         refine norm_ (a' := ?_) ?_ ?_; rotate_left; show Act.put _ (some 99) _ = _; simp only [Act.put, qq1, qq2, qq3, i64_w, i32_w]; rfl
         refine pure_ (i := 5) (N := (some 94)) (v := ?_) (a' := ?_) (bs 319 11) rfl rfl (by kernel_rfl) (fun _ _ _ h => h) (Or.inl ⟨by rfl, ?_⟩) ?_ ?_; rotate_left; intro w'; go_simp; with_reducible rfl; rotate_left; simp only [Act.put, qq1, qq2, qq3, i64_w, i32_w]; rfl
         refine pure_ (i := 6) (N := (some 100)) (v := ?_) (a' := ?_) (bs 383 11) rfl rfl (by kernel_rfl) (fun _ _ _ h => h) (Or.inl ⟨by rfl, ?_⟩) ?_ ?_; rotate_left; intro w'; go_simp; with_reducible rfl; rotate_left; simp only [Act.put, qq1, qq2, qq3, i64_w, i32_w]; rfl
         refine pure_ (i := 7) (N := (some 101)) (v := ?_) (a' := ?_) (bs 511 11) rfl rfl (by kernel_rfl) (fun _ _ _ h => h) (Or.inl ⟨by rfl, ?_⟩) ?_ ?_; rotate_left; intro w'; go_simp; with_reducible rfl; rotate_left; simp only [Act.put, qq1, qq2, qq3, i64_w, i32_w]; rfl
         refine norm_ (by simp only [putAll, Act.put, qq1, qq2, qq3]) (hCont (Y1, y1, Y2, y2, V, vc, b15) _ ?_)
         exact ⟨hHeld, HBC.out, HA.out, HFF.out⟩
     · skip
       refine box_step ?hg (N := 15) ?hd (cs := #[.int .i64 0, .slice none 0 0]) (t := 28) ?hr ?_; (case hd => rfl); (case hg => rfl); (case hr => first | (go_simp; done) | (go_simp; rfl))
       intro b15 hg wn hbox hb
       have hsz := HBC.out.size
       have HA0 := am (And.intro hbox (show w19.heap.size ≤ b15 by omega))
       replace HY1 := am (And.intro HY1.out.1 (Kd.C_below HY1.out.2 hb))
       replace HBC := am (below_step HBC.out hb)
       have HA := HA0
       clear hg hbox hb hsz HA0
       refine hK.out _ _ (HSS2.out _ HBC.out) (fun hHeld => ?_)
       clear hK K
       refine norm_ (a' := ?_) ?_ ?_; rotate_left; show Act.put _ (some 15) _ = _; simp only [Act.put, qq1, qq2, qq3, i64_w, i32_w]; rfl
       refine one_ (i := 3) (N := (some 98)) (bs 271 11) rfl rfl (by kernel_rfl) (by decide) (fun K hK => ?_)
       refine goes_ Try.func8 (by kernel_rfl) rfl #[.agg #[.int .i64 p1, .slice A1 l1.length c1]] (by rfl) rfl rfl (by (try simp only [List.map_toArray, List.map_cons, List.map_nil]); rfl) ?_
       refine (HTO1.out _ (below_step HL.out.old HBC.out)).mono ?_
       rintro e wn ⟨v2, fs2, rfl, hm, ht, hb⟩
       refine ⟨_, rfl, ?_⟩
       replace HA := am (And.intro (blk_below HA.out.1 hb) HA.out.2)
       replace HY1 := am (And.intro HY1.out.1 (Kd.C_below HY1.out.2 hb))
       replace HBC := am (below_step HBC.out hb)
       obtain ⟨Y2, y2, rfl⟩ := ht.slice
       obtain ⟨e1, e2, e3⟩ := ht.foot hm
       rw [e1] at *
       have HY2 := am (And.intro e2 (Kd.F_now e3))
       clear hm ht hb e1 e2 e3
       refine hK.out _ _ (HSS2.out _ HBC.out) (fun hHeld => ?_)
       clear hK K
       refine norm_ (a' := ?_) ?_ ?_; rotate_left; show Act.put _ (some 98) _ = _; simp only [Act.put, qq1, qq2, qq3, i64_w, i32_w]; rfl
       refine one_ (i := 4) (N := (some 99)) (bs 287 11) rfl rfl (by kernel_rfl) (by decide) (fun K hK => ?_)
       refine goes_ Try.func9 (by kernel_rfl) rfl #[.agg #[.int .i64 p0, .slice Y1 xs.length y1], .agg #[.int .i64 p1, .slice Y2 ys.length y2]] (by rfl) rfl rfl (by (try simp only [List.map_toArray, List.map_cons, List.map_nil]); rfl) ?_
       have hsz := HBC.out.size
       refine (implCF_any p0 p1 rp rc Y1 Y2 y1 y2 xs ys ts _ HCI.out HY1.out.2 HY1.out.1 HY2.out.2 HY2.out.1).mono ?_
       rintro e wn ⟨V, vc, rfl, hl, hf, hb⟩
       refine ⟨_, rfl, ?_⟩
       have HFF := am (And.intro hl (Kd.F_mono hf (fun k hk => (⟨Nat.le_trans hsz hk, fun hh => by have := (Array.getElem?_eq_some_iff.1 HA.out.1).1; omega⟩ : w19.heap.size ≤ k ∧ k ≠ b15))))
       replace HA := am (And.intro (blk_below HA.out.1 hb) HA.out.2)
       replace HY1 := am (And.intro HY1.out.1 (Kd.C_below HY1.out.2 hb))
       replace HY2 := am (And.intro HY2.out.1 (Kd.C_below HY2.out.2 hb))
       replace HBC := am (below_step HBC.out hb)
       clear hl hf hb hsz
       refine hK.out _ _ (HSS2.out _ HBC.out) (fun hHeld => ?_)
       clear hK K
       refine norm_ (a' := ?_) ?_ ?_; rotate_left; show Act.put _ (some 99) _ = _; simp only [Act.put, qq1, qq2, qq3, i64_w, i32_w]; rfl
       refine pure_ (i := 5) (N := (some 94)) (v := ?_) (a' := ?_) (bs 319 11) rfl rfl (by kernel_rfl) (fun _ _ _ h => h) (Or.inl ⟨by rfl, ?_⟩) ?_ ?_; rotate_left; intro w'; go_simp; with_reducible rfl; rotate_left; simp only [Act.put, qq1, qq2, qq3, i64_w, i32_w]; rfl
       refine pure_ (i := 6) (N := (some 100)) (v := ?_) (a' := ?_) (bs 383 11) rfl rfl (by kernel_rfl) (fun _ _ _ h => h) (Or.inl ⟨by rfl, ?_⟩) ?_ ?_; rotate_left; intro w'; go_simp; with_reducible rfl; rotate_left; simp only [Act.put, qq1, qq2, qq3, i64_w, i32_w]; rfl
       refine pure_ (i := 7) (N := (some 101)) (v := ?_) (a' := ?_) (bs 511 11) rfl rfl (by kernel_rfl) (fun _ _ _ h => h) (Or.inl ⟨by rfl, ?_⟩) ?_ ?_; rotate_left; intro w'; go_simp; with_reducible rfl; rotate_left; simp only [Act.put, qq1, qq2, qq3, i64_w, i32_w]; rfl
       refine norm_ (by simp only [putAll, Act.put, qq1, qq2, qq3]) (hCont (Y1, y1, Y2, y2, V, vc, b15) _ ?_)
       exact ⟨hHeld, HBC.out, HA.out, HFF.out⟩
   · skip
     refine box_step ?hg (N := 15) ?hd (cs := #[.int .i64 0, .slice none 0 0]) (t := 28) ?hr ?_; (case hd => rfl); (case hg => rfl); (case hr => first | (go_simp; done) | (go_simp; rfl))
     intro b15 hg wn hbox hb
     have hsz := HBC.out.size
     have HA0 := am (And.intro hbox (show w19.heap.size ≤ b15 by omega))
     replace HBC := am (below_step HBC.out hb)
     have HA := HA0
     clear hg hbox hb hsz HA0
     refine hK.out _ _ (HSS2.out _ HBC.out) (fun hHeld => ?_)
     clear hK K
     refine norm_ (a' := ?_) ?_ ?_; rotate_left; show Act.put _ (some 15) _ = _; simp only [Act.put, qq1, qq2, qq3, i64_w, i32_w]; rfl
     refine one_ (i := 1) (N := (some 96)) (bs 263 11) rfl rfl (by kernel_rfl) (by decide) (fun K hK => ?_)
     refine goes_ Try.func8 (by kernel_rfl) rfl #[.agg #[.int .i64 p0, .slice A0 l0.length c0]] (by rfl) rfl rfl (by (try simp only [List.map_toArray, List.map_cons, List.map_nil]); rfl) ?_
     refine (HTO0.out _ (below_step HL.out.old HBC.out)).mono ?_
     rintro e wn ⟨v1, fs1, rfl, hm, ht, hb⟩
     refine ⟨_, rfl, ?_⟩
     replace HA := am (And.intro (blk_below HA.out.1 hb) HA.out.2)
     replace HBC := am (below_step HBC.out hb)
     obtain ⟨Y1, y1, rfl⟩ := ht.slice
     obtain ⟨e1, e2, e3⟩ := ht.foot hm
     rw [e1] at *
     have HY1 := am (And.intro e2 (Kd.F_now e3))
     clear hm ht hb e1 e2 e3
     refine hK.out _ _ (HSS2.out _ HBC.out) (fun hHeld => ?_)
     clear hK K
     refine norm_ (a' := ?_) ?_ ?_; rotate_left; show Act.put _ (some 96) _ = _; simp only [Act.put, qq1, qq2, qq3, i64_w, i32_w]; rfl
     refine one_ (i := 3) (N := (some 98)) (bs 271 11) rfl rfl (by kernel_rfl) (by decide) (fun K hK => ?_)
     refine goes_ Try.func8 (by kernel_rfl) rfl #[.agg #[.int .i64 p1, .slice A1 l1.length c1]] (by rfl) rfl rfl (by (try simp only [List.map_toArray, List.map_cons, List.map_nil]); rfl) ?_
     refine (HTO1.out _ (below_step HL.out.old HBC.out)).mono ?_
     rintro e wn ⟨v2, fs2, rfl, hm, ht, hb⟩
     refine ⟨_, rfl, ?_⟩
     replace HA := am (And.intro (blk_below HA.out.1 hb) HA.out.2)
     replace HY1 := am (And.intro HY1.out.1 (Kd.C_below HY1.out.2 hb))
     replace HBC := am (below_step HBC.out hb)
     obtain ⟨Y2, y2, rfl⟩ := ht.slice
     obtain ⟨e1, e2, e3⟩ := ht.foot hm
     rw [e1] at *
     have HY2 := am (And.intro e2 (Kd.F_now e3))
     clear hm ht hb e1 e2 e3
     refine hK.out _ _ (HSS2.out _ HBC.out) (fun hHeld => ?_)
     clear hK K
     refine norm_ (a' := ?_) ?_ ?_; rotate_left; show Act.put _ (some 98) _ = _; simp only [Act.put, qq1, qq2, qq3, i64_w, i32_w]; rfl
     refine one_ (i := 4) (N := (some 99)) (bs 287 11) rfl rfl (by kernel_rfl) (by decide) (fun K hK => ?_)
     refine goes_ Try.func9 (by kernel_rfl) rfl #[.agg #[.int .i64 p0, .slice Y1 xs.length y1], .agg #[.int .i64 p1, .slice Y2 ys.length y2]] (by rfl) rfl rfl (by (try simp only [List.map_toArray, List.map_cons, List.map_nil]); rfl) ?_
     have hsz := HBC.out.size
     refine (implCF_any p0 p1 rp rc Y1 Y2 y1 y2 xs ys ts _ HCI.out HY1.out.2 HY1.out.1 HY2.out.2 HY2.out.1).mono ?_
     rintro e wn ⟨V, vc, rfl, hl, hf, hb⟩
     refine ⟨_, rfl, ?_⟩
     have HFF := am (And.intro hl (Kd.F_mono hf (fun k hk => (⟨Nat.le_trans hsz hk, fun hh => by have := (Array.getElem?_eq_some_iff.1 HA.out.1).1; omega⟩ : w19.heap.size ≤ k ∧ k ≠ b15))))
     replace HA := am (And.intro (blk_below HA.out.1 hb) HA.out.2)
     replace HY1 := am (And.intro HY1.out.1 (Kd.C_below HY1.out.2 hb))
     replace HY2 := am (And.intro HY2.out.1 (Kd.C_below HY2.out.2 hb))
     replace HBC := am (below_step HBC.out hb)
     clear hl hf hb hsz
     refine hK.out _ _ (HSS2.out _ HBC.out) (fun hHeld => ?_)
     clear hK K
     refine norm_ (a' := ?_) ?_ ?_; rotate_left; show Act.put _ (some 99) _ = _; simp only [Act.put, qq1, qq2, qq3, i64_w, i32_w]; rfl
     refine pure_ (i := 5) (N := (some 94)) (v := ?_) (a' := ?_) (bs 319 11) rfl rfl (by kernel_rfl) (fun _ _ _ h => h) (Or.inl ⟨by rfl, ?_⟩) ?_ ?_; rotate_left; intro w'; go_simp; with_reducible rfl; rotate_left; simp only [Act.put, qq1, qq2, qq3, i64_w, i32_w]; rfl
     refine pure_ (i := 6) (N := (some 100)) (v := ?_) (a' := ?_) (bs 383 11) rfl rfl (by kernel_rfl) (fun _ _ _ h => h) (Or.inl ⟨by rfl, ?_⟩) ?_ ?_; rotate_left; intro w'; go_simp; with_reducible rfl; rotate_left; simp only [Act.put, qq1, qq2, qq3, i64_w, i32_w]; rfl
     refine pure_ (i := 7) (N := (some 101)) (v := ?_) (a' := ?_) (bs 511 11) rfl rfl (by kernel_rfl) (fun _ _ _ h => h) (Or.inl ⟨by rfl, ?_⟩) ?_ ?_; rotate_left; intro w'; go_simp; with_reducible rfl; rotate_left; simp only [Act.put, qq1, qq2, qq3, i64_w, i32_w]; rfl
     refine norm_ (by simp only [putAll, Act.put, qq1, qq2, qq3]) (hCont (Y1, y1, Y2, y2, V, vc, b15) _ ?_)
     exact ⟨hHeld, HBC.out, HA.out, HFF.out⟩
 rintro ⟨Y1, y1, Y2, y2, V, vc, b15⟩ w20 ⟨hHeld, hbc, hbox, hff⟩
 dsimp only at hbox hff
 refine norm_ (a' := ?_) ?_ ?_; rotate_left; simp only [putAll, Act.put, qq1, qq2, qq3, i64_w, i32_w]; rfl
 have HA := am hbox
 have HFF := am hff
 have HBC3 := am hbc
 have hd0 := (blk_cell HA.out.1 0).trans (rfl : _ = some (Value.int .i64 0))
 have hd1 := (blk_cell HA.out.1 1).trans (rfl : _ = some (Value.slice none 0 0))
 have hf0 := blk_frozen HA.out.1 0
 have hf1 := blk_frozen HA.out.1 1
 clear hbox hff hbc HBC
 refine last_ (i := 9) (N := none) (bs 1023 11) rfl rfl (by kernel_rfl) (by decide) (fun K hK => ?_)
 refine skip_ (w1 := ?_) (by rfl) rfl ?_ ?_
 rotate_left
 · go_simp
   rfl
 refine hK.out _ _ ?_
 clear hK K hd0 hd1 hf0 hf1
 refine pure_ (i := 10) (N := (some 16)) (v := ?_) (a' := ?_) (bs 2047 11) rfl rfl (by kernel_rfl) (fun _ _ _ h => h) (Or.inl ⟨by rfl, ?_⟩) ?_ ?_; rotate_left; intro w'; go_simp; with_reducible rfl; rotate_left; simp only [Act.put, qq1, qq2, qq3, i64_w, i32_w]; rfl
 refine done_ (by kernel_rfl) ?_
 replace HL := am (HL.out.below ((HBC3.out.setCell (p := ⟨b15, 0, none⟩) HA.out.2 (.int .i64 rp)).setCell (p := ⟨b15, 1, none⟩) HA.out.2 (.slice V ts.length vc)))
 have HFV := am (Kd.F_step (W1 := (w20.setCell ⟨b15, 0, none⟩ (.int .i64 rp)).setCell ⟨b15, 1, none⟩ (.slice V ts.length vc)) HFF.out.2 (fun k hk _ => (Below.heap_setCell _ _ _ k hk.2).trans (Below.heap_setCell _ _ _ k hk.2)))
 have HB15 := am (show ((w20.setCell ⟨b15, 0, none⟩ (.int .i64 rp)).setCell ⟨b15, 1, none⟩ (.slice V ts.length vc)).heap[b15]? = some (.cells #[.int .i64 rp, .slice V ts.length vc] 28 (0, 0)) from by
  refine blk_put (cs := #[.int .i64 rp, .slice none 0 0]) ?_ 1 _ rfl
  refine blk_put (cs := #[.int .i64 0, .slice none 0 0]) ?_ 0 _ rfl
  exact HA.out.1)
 have HVC := am HFF.out.1
 clear HSS2 HBC3 HFF HA
 generalize (w20.setCell ⟨b15, 0, none⟩ (.int .i64 rp)).setCell ⟨b15, 1, none⟩ (.slice V ts.length vc) = w21 at *
 have hz0 := (blk_cell HB15.out 0).trans (rfl : _ = some (Value.int .i64 rp))
 have hz1 := (blk_cell HB15.out 1).trans (rfl : _ = some (Value.slice V ts.length vc))
 have hy0 := (blk_cell (HL.out.blk (b6, .cells #[.int .i64 rp, .slice U ts.length uc] 28) (by simp)) 0).trans (rfl : _ = some (Value.int .i64 rp))
 have hy1 := (blk_cell (HL.out.blk (b6, .cells #[.int .i64 rp, .slice U ts.length uc] 28) (by simp)) 1).trans (rfl : _ = some (Value.slice U ts.length uc))
 go_wp2_with fail
 clear hz0 hz1 hy0 hy1
 go_must (refine (eqSum_any' rp ts V U ts.length ts.length vc uc w21 rfl rfl (by omega) htw (Kd.F_now HFV.out) HVC.out (Kd.F_now HL.out.foot) HUC.out).mono ?_)
 rintro e w22 ⟨rfl, hb⟩
 replace HL := am (HL.out.below hb)
 clear hb
 have hz0 := (blk_cell (HL.out.blk (b10, .cells #[.int .i64 rp, .slice D3 es3.length d3] 28) (by simp)) 0).trans (rfl : _ = some (Value.int .i64 rp))
 have hz1 := (blk_cell (HL.out.blk (b10, .cells #[.int .i64 rp, .slice D3 es3.length d3] 28) (by simp)) 1).trans (rfl : _ = some (Value.slice D3 es3.length d3))
 go_wp2_with fail
 clear hz0 hz1
 go_must (refine (HHE.out _ (HL.out.rows _ List.mem_cons_self)).mono ?_)
 rintro e w23 ⟨rfl, hb⟩
 replace HL := am (HL.out.below hb)
 have hm1 : decide (1 + (lenT ts : Int) < 0) = false := decide_eq_false (by omega)
 clear hb
 go_wp2_with fail
 go_ret
 exact ⟨by rfl, HL.out.old⟩
end Go.Proofs.Ytgcgeoglhebonaa.P
end
