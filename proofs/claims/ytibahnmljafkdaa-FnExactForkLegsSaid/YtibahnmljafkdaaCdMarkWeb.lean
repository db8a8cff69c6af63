/- The laws' marks on webs. -/
import Derived.Test.YtibahnmljafkdaaCdMarks
import Derived.Test.YtibahnmljafkdaaCdPx8
namespace Go.Proofs.Ytibahnmljafkdaa.P
open Go.RowKit Go.Maps Go.Proofs.YtibahnmljafkdaaW.PrintWords Go.Proofs.YtibahnmljafkdaaW.PrintLast Go.Proofs.YtibahnmljafkdaaW.PrintMore
set_option linter.unusedVariables false
set_option linter.unusedSimpArgs false
def lenLL : List (List Int) → Nat
 | [] => 0
 | f :: r => f.length + lenLL r
def marksLL (a : Int) : List (List Int) → List (List Int)
 | [] => []
 | f :: r => marksL a f.length :: marksLL (a + f.length) r
theorem marksLL_length : ∀ (l : List (List Int)) (a : Int), (marksLL a l).length = l.length
 | [], _ => rfl
 | f :: r, a => by simp [marksLL, marksLL_length r]
theorem lenLL_append : ∀ (a b : List (List Int)), lenLL (a ++ b) = lenLL a + lenLL b
 | [], b => by simp [lenLL]
 | f :: r, b => by simp only [List.cons_append, lenLL, lenLL_append r b]; omega
theorem marksLL_append : ∀ (l m : List (List Int)) (a : Int), marksLL a (l ++ m) = marksLL a l ++ marksLL (a + lenLL l) m
 | [], m, a => by simp [marksLL, lenLL]
 | f :: r, m, a => by
  simp only [List.cons_append, marksLL, lenLL, marksLL_append r m]
  rw [show a + (f.length : Int) + (lenLL r : Int) = a + ((f.length + lenLL r : Nat) : Int) by omega]
theorem lenLL_take (l : List (List Int)) (i : Nat) : lenLL (l.take i) ≤ lenLL l := by
 conv => rhs; rw [← List.take_append_drop i l]
 rw [lenLL_append]; omega
theorem heldSS_l0 (l : List (List Int)) (a : Int) (h0 : 0 ≤ a) (hb : a + lenLL l ≤ 1000000000000000) (hn : l.length ≤ 1000000000000) : ∀ (d i : Nat), i + d = l.length → Ev (fun k => laws_heldInt64SS.l0 k (marksLL a l) (a + lenLL (l.take i)) (i : Int)) (a + lenLL l) := by
 intro d
 induction d with
 | zero =>
  intro i hi
  refine Ev.step (fun k => by rw [laws_heldInt64SS.l0]) ?_
  simp only [marksLL_length, if_neg (show ¬ ((i : Int) < (l.length : Int)) by omega)]
  rw [List.take_of_length_le (by omega)]
  exact ev_val rfl
 | succ d ih =>
  intro i hi
  have hs := take_succ_L l i (by omega)
  have hr : rd_L1 (marksLL a l) (i : Int) = marksL (a + lenLL (l.take i)) (rd_L1 l (i : Int)).length := by
   have e : marksLL a l = marksLL a (l.take i) ++ marksLL (a + lenLL (l.take i)) (l.drop i) := by rw [← marksLL_append, List.take_append_drop]
   rw [e, drop_cons_L l i (by omega), marksLL]
   have hl : (marksLL a (l.take i)).length = i := by rw [marksLL_length]; simp; omega
   simp only [rd_L1, Int.toNat_natCast]
   rw [List.getD_eq_getElem?_getD, List.getElem?_append_right (by omega), hl, Nat.sub_self]
   rfl
  have hl2 : lenLL (l.take (i + 1)) = lenLL (l.take i) + (rd_L1 l (i : Int)).length := by rw [hs, lenLL_append]; simp [lenLL]
  have hl3 := lenLL_take l (i + 1)
  refine Ev.step (fun k => by rw [laws_heldInt64SS.l0]) ?_
  simp only [marksLL_length, if_pos (show ((i : Int) < (l.length : Int)) by omega), if_pos (show (0 : Int) ≤ (i : Int) by omega), hr, wr1 i l.length (by omega) (by omega)]
  refine Ev.bind (ev_held (rd_L1 l (i : Int)).length (a + lenLL (l.take i)) (by omega) (by omega)) ?_
  simp only [if_neg (show ¬ (a + (lenLL (l.take i) : Int) + ((rd_L1 l (i : Int)).length : Int) < 0) by omega)]
  rw [show a + (lenLL (l.take i) : Int) + ((rd_L1 l (i : Int)).length : Int) = a + (lenLL (l.take (i + 1)) : Int) by omega]
  exact ih (i + 1) (by omega)
theorem ev_heldWeb (n : Nat) (l : List (List Int)) (a : Int) (h0 : 0 ≤ a) (hb : a + n + lenLL l ≤ 1000000000000000) (hn : l.length ≤ 1000000000000) : Ev (fun k => laws_heldWeb.f k (marksL a n) (marksLL (a + n) l) a) (a + n + lenLL l) := by
 unfold laws_heldWeb.f laws_heldInt64SS.f
 refine Ev.bind (ev_held n a h0 (by omega)) ?_
 simp only [if_neg (show ¬ (a + (n : Int) < 0) by omega)]
 have := heldSS_l0 l (a + n) (by omega) (by omega) hn l.length 0 (by omega)
 refine Ev.bind (by simpa [lenLL] using this) ?_
 simp only [if_neg (show ¬ (a + (n : Int) + (lenLL l : Int) < 0) by omega)]
 exact Ev.now _
set_option maxRecDepth 100000 in
set_option maxHeartbeats 1000000 in
theorem markSS_any (v : Value) (l : List (List Int)) (a : Int) (w0 w : World) (ok : Nat → Prop) (hB : Below w0.heap.size w0 w) (h : Kd.S (Kd.slice 2 (Kd.int .i64)) 22 w w0.heap.size ok v l) (h0 : 0 ≤ a) (hb : a + lenLL l ≤ 1000000000000000) (hn : l.length ≤ 1000000000000) :
 Calls Try.prog 47 #[v, .int .i64 a] w fun e w' => e = .returned (.int .i64 (a + lenLL l)) ∧ Kd.S (Kd.slice 2 (Kd.int .i64)) 22 w' w0.heap.size ok v (marksLL a l) ∧ Below w0.heap.size w0 w' ∧ Kept w w' ok := by
 have HS := Aside0.mk h
 have HB := Aside0.mk hB
 obtain ⟨A, c, rfl⟩ := Kd.R_slice (Kd.S_R h)
 clear h hB
 go_enter Try.func47, Try.ntmps47
 go_wp2
 go_loopw [5, 1] (fun i u wr => ∃ k : Nat, k ≤ l.length ∧ i = .int .i64 k ∧ u = .int .i64 (a + lenLL (l.take k)) ∧ Aside0 (Kd.S (Kd.slice 2 (Kd.int .i64)) 22 wr w0.heap.size ok (.slice A l.length c) (marksLL a (l.take k) ++ l.drop k)) ∧ Aside0 (Below w0.heap.size w0 wr) ∧ Aside0 (Kept w wr ok))
  (fun i _ _ => l.length - (intOf i).toNat)
 case atStart => exact ⟨0, Nat.zero_le _, rfl, by simp [lenLL], ⟨by simpa [marksLL] using HS.out⟩, HB, ⟨Kept.refl _ _⟩⟩
 case round =>
  obtain ⟨k, hk, rfl, rfl, HS2, HB2, HK2⟩ := hrel
  clear HS HB
  by_cases hlt : k < l.length
  · obtain ⟨g, cap, e, _⟩ := Kd.S_form HS2.out (by simp [marksLL_length]; omega)
    injection e with e1 e2 e3
    subst e1
    clear e2 e3
    obtain ⟨oki, cs, hcl, hM, hcc, hok, hH⟩ := Kd.S_lend HS2.out ([] : List Int) (k : Int) (by omega) (by omega)
    obtain ⟨u, rfl, hR⟩ := hM
    have hx : wr.cell? ⟨g, k, none⟩ = some u := by
     have := hcc 0 u rfl
     simpa [Kd.slice] using this
    have hrow : (marksLL a (l.take k) ++ l.drop k).getD (k : Int).toNat [] = rd_L1 l (k : Int) := by
     have hl : (marksLL a (l.take k)).length = k := by rw [marksLL_length]; simp; omega
     rw [Int.toNat_natCast, List.getD_eq_getElem?_getD, List.getElem?_append_right (by omega), hl, Nat.sub_self, drop_cons_L l k hlt]
     rfl
    rw [hrow] at hR
    have hs := take_succ_L l k hlt
    have hl2 : lenLL (l.take (k + 1)) = lenLL (l.take k) + (rd_L1 l (k : Int)).length := by rw [hs, lenLL_append]; simp [lenLL]
    have hl3 := lenLL_take l (k + 1)
    have hset : ∀ r : List Int, (marksLL a (l.take k) ++ l.drop k).set (k : Int).toNat r = marksLL a (l.take k) ++ r :: l.drop (k + 1) := fun r => by
     have hl : (marksLL a (l.take k)).length = k := by rw [marksLL_length]; simp; omega
     rw [Int.toNat_natCast, List.set_append_right _ _ (by omega), hl, Nat.sub_self, drop_cons_L l k hlt]
     rfl
    have HC := Aside0.mk (markI_any u (rd_L1 l (k : Int)) (a + lenLL (l.take k)) w0 wr oki HB2.out hR (by omega) (by omega))
    have HH := Aside0.mk hH
    have HSET := Aside0.mk hset
    have HT := Aside0.mk hs
    have HL2 := Aside0.mk hl2
    obtain ⟨Au, cu, rfl⟩ := Kd.R_slice hR
    clear hset hs hR hcc hH hcl hl2 hl3 hrow
    go_wp2_with (go_at_call 46; go_must (refine HC.out.mono ?_); rintro e w1 ⟨rfl, hr1, hb1, hk1⟩; have HR1 := Aside0.mk hr1; have HB1 := Aside0.mk hb1; have HK1 := Aside0.mk hk1; clear hr1 hb1 hk1)
    go_roundw
    case rel =>
     refine ⟨k + 1, by omega, by go_num, by have := HL2.out; congr 1; omega, ⟨?_⟩, HB1, ⟨HK2.out.then_ HK1.out (fun j hj => .inl (hok j hj).1)⟩⟩
     have h1 := Kd.H_back (Kd.H_kept HH.out HK1.out (fun j _ hn hj => hn hj)) (x' := marksL (a + lenLL (l.take k)) (rd_L1 l (k : Int)).length) (okp := oki) ⟨_, rfl, HR1.out⟩ (fun j hj => hj)
     rw [HSET.out] at h1
     rw [HT.out, marksLL_append, List.append_assoc]
     exact h1
    case measure => simp [intOf]; omega
  · obtain rfl : k = l.length := by omega
    have HS3 := HS2.out
    rw [List.take_length, List.drop_length, List.append_nil] at HS3
    have HS4 := Aside0.mk HS3
    clear HS3
    rw [List.take_length]
    go_wp2
    go_ret
    exact ⟨by rfl, HS4.out, HB2.out, HK2.out⟩
set_option maxRecDepth 100000 in
set_option maxHeartbeats 1000000 in
theorem markWeb_any (v0 v1 : Value) (legs : List Int) (forks : List (List Int)) (a : Int) (w0 w : World) (ok0 ok1 : Nat → Prop) (hB : Below w0.heap.size w0 w) (h0 : Kd.R (Kd.int .i64) 2 w w0.heap.size ok0 v0 legs) (h1 : Kd.S (Kd.slice 2 (Kd.int .i64)) 22 w w0.heap.size ok1 v1 forks)
 (hd : ∀ j, ok1 j → ¬ ok0 j) (ha : 0 ≤ a) (hb : a + legs.length + lenLL forks ≤ 1000000000000000) (hn : forks.length ≤ 1000000000000) (hlt : ∀ j, ok0 j ∨ ok1 j → j < w.heap.size) :
 Calls Try.prog 17 #[.agg #[v0, v1], .int .i64 a] w fun e w' => e = .returned (.int .i64 (a + legs.length + lenLL forks)) ∧ Kd.R (Kd.int .i64) 2 w' w0.heap.size ok0 v0 (marksL a legs.length) ∧ Kd.S (Kd.slice 2 (Kd.int .i64)) 22 w' w0.heap.size ok1 v1 (marksLL (a + legs.length) forks) ∧ Below w0.heap.size w0 w' ∧ Kept w w' (fun j => ok0 j ∨ ok1 j) := by
 have hu36 := Try.underlying36
 obtain ⟨A0, c0, rfl⟩ := Kd.R_slice h0
 obtain ⟨A1, c1, rfl⟩ := Kd.R_slice (Kd.S_R h1)
 have hbx := below_alloc (Below.refl w.heap.size w) (.cells #[.slice A0 legs.length c0, .slice A1 forks.length c1] 36)
 have HW := Aside0.mk (show (w.alloc (.cells #[.slice A0 legs.length c0, .slice A1 forks.length c1] 36)).heap[w.heap.size]? = some (.cells #[.slice A0 legs.length c0, .slice A1 forks.length c1] 36 (0, 0)) from (MapKept.heap_alloc w _).1)
 have HBX := Aside0.mk hbx
 have HC0 := Aside0.mk (markI_any _ legs a w0 (w.alloc (.cells #[.slice A0 legs.length c0, .slice A1 forks.length c1] 36)) ok0 (below_alloc hB _) (Kd.R_below h0 hbx) ha (by omega))
 have HS0 := Aside0.mk (Kd.S_below h1 hbx)
 have HD := Aside0.mk hd
 have HLT := Aside0.mk hlt
 have HSZ := Aside0.mk (show (w.alloc (.cells #[.slice A0 legs.length c0, .slice A1 forks.length c1] 36)).heap.size = w.heap.size + 1 from by simp)
 clear h0 h1 hd hbx hlt
 go_enter Try.func17, Try.ntmps17
 go_wp2_with (first
  | (go_at_call 46; go_must (refine HC0.out.mono ?_); rintro e w1 ⟨rfl, hr1, hb1, hk1⟩; have HR1 := Aside0.mk hr1; have HB1 := Aside0.mk hb1; have HK1 := Aside0.mk hk1; have hW1 := (hk1.2 w.heap.size (by rw [HSZ.out]; omega) (fun hj => by have := HLT.out _ (.inl hj); omega)).trans HW.out; have hz1 : w1.cell? ⟨w.heap.size, 1, none⟩ = some (.slice A1 forks.length c1) := (blk_cell hW1 1).trans rfl; have HC1 := Aside0.mk (markSS_any _ forks (a + legs.length) w0 w1 ok1 hb1 (Kd.S_kept HS0.out hk1 HD.out) (by omega) (by omega) hn); clear hr1 hb1 hk1 hW1)
  | (go_at_call 47; go_must (refine HC1.out.mono ?_); rintro e w2 ⟨rfl, hs2, hb2, hk2⟩; have HS2 := Aside0.mk hs2; have HB2 := Aside0.mk hb2; have HK2 := Aside0.mk hk2; clear hs2 hb2 hk2)
  | go_in)
 go_ret
 refine ⟨by rfl, Kd.R_kept HR1.out HK2.out (fun j h0 h1 => HD.out j h1 h0), HS2.out, HB2.out, ?_⟩
 have k1 : Kept w w1 ok0 := ((Kept.refl w ok0).alloc _).then_ HK1.out (fun j hj => .inl hj)
 exact (k1.mono (fun j hj => .inl hj)).then_ HK2.out (fun j hj => .inl (.inr hj))
end Go.Proofs.Ytibahnmljafkdaa.P
