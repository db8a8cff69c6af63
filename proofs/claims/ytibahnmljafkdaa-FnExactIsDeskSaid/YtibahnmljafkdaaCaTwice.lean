/- 'twice' tells whether each number of a list stands in it just twice. -/
import Derived.Test.YtibahnmljafkdaaCaBase
namespace Go.Proofs.Ytibahnmljafkdaa.P
open Go.RowKit Go.Maps Go.Proofs.YtibahnmljafkdaaW.PrintWords Go.Proofs.YtibahnmljafkdaaW.PrintLast Go.Proofs.YtibahnmljafkdaaW.PrintMore
set_option linter.unusedVariables false
set_option linter.unusedSimpArgs false
def cntKV : List Int → List (Int × Int) → List (Int × Int)
 | [], kv => kv
 | x :: l, kv => cntKV l (kvPut kv x ((kvGet kv x).getD 0 + 1))
def twiceB (l : List Int) : Bool := l.all fun x => decide (l.count x = 2)
theorem cntKV_snoc : ∀ (l : List Int) (x : Int) (kv : List (Int × Int)), cntKV (l ++ [x]) kv = kvPut (cntKV l kv) x ((kvGet (cntKV l kv) x).getD 0 + 1)
 | [], x, kv => rfl
 | y :: l, x, kv => cntKV_snoc l x _
theorem cntKV_get (l : List Int) : ∀ (x : Int), kvGet (cntKV l []) x = if l.count x = 0 then none else some (l.count x : Int) := by
 suffices h : ∀ (n : Nat) (l : List Int), l.length = n → ∀ x, kvGet (cntKV l []) x = if l.count x = 0 then none else some (l.count x : Int) from h _ l rfl
 intro n
 induction n with
 | zero => intro l hl x; obtain rfl := List.eq_nil_of_length_eq_zero hl; simp [cntKV, kvGet_nil]
 | succ n ih =>
  intro l hl x
  have hne : l ≠ [] := by intro h; rw [h] at hl; simp at hl
  obtain ⟨d, y, rfl⟩ : ∃ d y, l = d ++ [y] := ⟨_, _, (List.dropLast_concat_getLast hne).symm⟩
  have hdl : d.length = n := by simp at hl; omega
  rw [cntKV_snoc]
  have iy := ih d hdl y
  by_cases hxy : x = y
  · subst hxy
    rw [kvGet_put_same, iy]
    simp only [List.count_append, List.count_singleton_self]
    by_cases h0 : d.count x = 0 <;> simp [h0]
  · rw [kvGet_put_other _ _ _ _ hxy, ih d hdl x]
    have : List.count x [y] = 0 := by simp [List.count_cons, Ne.symm hxy]
    simp [List.count_append, this]
theorem cntKV_keys (l : List Int) (kv : List (Int × Int)) (h : kv.Pairwise (fun a b => a.1 ≠ b.1)) : (cntKV l kv).Pairwise (fun a b => a.1 ≠ b.1) := by
 induction l generalizing kv with
 | nil => exact h
 | cons x l ih => exact ih _ (kvPut_keys kv x _ h)
theorem cntKV_val (l : List Int) (p : Int × Int) (hp : p ∈ cntKV l []) : p.2 = l.count p.1 ∧ p.1 ∈ l := by
 have h := kvGet_of_mem (cntKV_keys l [] List.Pairwise.nil) hp
 rw [cntKV_get] at h
 by_cases h0 : l.count p.1 = 0
 · simp [h0] at h
 · rw [if_neg h0] at h
   exact ⟨(Option.some.inj h).symm, List.count_pos_iff.1 (by omega)⟩
theorem cntKV_mem (l : List Int) (x : Int) (hx : x ∈ l) : (x, (l.count x : Int)) ∈ cntKV l [] := by
 have : l.count x ≠ 0 := by have := List.count_pos_iff.2 hx; omega
 exact mem_of_kvGet (by rw [cntKV_get, if_neg this])
set_option maxRecDepth 100000 in
set_option maxHeartbeats 1000000 in
theorem twice_any (A0 : Option Addr) (c0 : Nat) (l0 : List Int) (w : World) (hr0 : Kd.C (Kd.int .i64) w A0 l0.length l0) (hc0 : l0.length ≤ c0) :
 Calls Try.prog 65 #[.slice A0 l0.length c0] w fun e w' => e = .returned (.bool (twiceB l0)) ∧ Below w.heap.size w w' := by
 have HR0 := Aside0.mk hr0
 have HC0 := Aside0.mk hc0
 have hlen : l0.length ≤ 9223372036854775807 := hr0.2.1
 clear hr0 hc0
 have hmm := @run_makeMap Try.prog
 go_enter Try.func65, Try.ntmps65
 go_wp2
 go_loopw [11] (fun i wr => ∃ k : Nat, k ≤ l0.length ∧ i = .int .i64 k ∧ Aside0 (mapKV wr (Value.int .i64) w.heap.size (evI (cntKV (l0.take k) []))) ∧ Aside0 (Below w.heap.size w wr))
  (fun i _ => l0.length - (intOf i).toNat)
 case atStart => exact ⟨0, Nat.zero_le _, rfl, ⟨mapKV_made _ _⟩, ⟨(Below.refl _ _).alloc (Nat.le_refl _) _⟩⟩
 case round =>
  obtain ⟨k, hk, rfl, HM, HB⟩ := hrel
  by_cases hlt : k < l0.length
  · obtain ⟨ad, e0, hx⟩ := Kd.at_int (Kd.C_below HR0.out HB.out) (k : Int) (by omega) (by omega)
    cases e0
    have hs := take_succ_rd l0 k hlt
    rw [Int.toNat_natCast] at hx
    obtain ⟨x, ex⟩ : ∃ x, x = rd l0 (k : Int) := ⟨_, rfl⟩
    rw [← ex] at hx hs
    have HS := Aside0.mk hs
    clear hs ex
    obtain ⟨c, ec⟩ : ∃ c, c = (kvGet (cntKV (l0.take k) []) x).getD 0 := ⟨_, rfl⟩
    have hg : (kvGet (evI (cntKV (l0.take k) [])) x).getD (.int .i64 0) = .int .i64 c := by rw [evI_get, ec]; cases kvGet (cntKV (l0.take k) []) x <;> rfl
    have hcb : 0 ≤ c ∧ c ≤ (k : Int) := by
     rw [ec, cntKV_get]
     have h1 : (l0.take k).count x ≤ k := Nat.le_trans List.count_le_length (by simp; omega)
     by_cases h0 : (l0.take k).count x = 0
     · simp [h0]
     · simp only [if_neg h0, Option.getD_some]; omega
    have hc1 : 0 ≤ c := hcb.1
    have hc2 : c ≤ (k : Int) := hcb.2
    have HG := Aside0.mk hg
    have EC := Aside0.mk ec
    clear hg ec hcb
    go_wp2_with (first
     | (at_lookup; refine wpList_lookup_kv rfl _ _ 98 rfl 2 3 (Value.int .i64) keyI64 Try.underlying98 (.int .i64 0) (zeroI _) w.heap.size _ rfl HM.out x rfl (.int .i64 c) HG.out ?_)
     | (at_mapUpdate; refine wpList_mapUpdate_kv rfl _ _ _ 98 rfl 2 3 (Value.int .i64) keyI64 Try.underlying98 w.heap.size _ rfl HM.out x rfl (.int .i64 (c + 1)) ?hv ?_; (case hv => rfl); intro w1 hm1 hg1 hs1)
     | go_in)
    go_roundw
    case rel => exact ⟨k + 1, by omega, by go_num, ⟨by rw [HS.out, cntKV_snoc, ← EC.out, ← evI_put]; exact hm1⟩, ⟨HB.out.grown hg1 HB.out.size (fun j hj => by cases hj; exact Nat.le_refl _)⟩⟩
    case measure => simp [intOf]; omega
  · have HK := Aside0.mk (show k = l0.length by omega)
    go_wp2_with (first
     | (at_range; refine wpList_range_kv rfl _ 98 rfl 2 3 Try.underlying98 (Value.int .i64) w.heap.size _ rfl HM.out ?_; intro w0 hrg0 hg0 hs0)
     | go_in)
    go_frame
    have HM2 := Aside0.mk hrg0
    have HB2 := Aside0.mk (HB.out.grown hg0 HB.out.size (fun j hj => by cases hj))
    have HL := Aside0.mk (show cntKV (l0.take k) [] = cntKV l0 [] by rw [HK.out, List.take_length])
    have HW := Aside0.mk (show w.heap.size < wr.heap.size from HM.out.lt)
    clear hrg0 hg0 hs0 HM HB HK
    generalize wr.heap.size = R at *
    go_loopg [22] (cntKV l0 []).length (fun n _ wx => ∃ left, Aside0 (left.length = n) ∧ Aside0 (rangeKV wx (Value.int .i64) w.heap.size R (evI (cntKV l0 [])) left) ∧ Aside0 (∀ p ∈ cntKV l0 [], p.2 = 2 ∨ (p.1, Value.int .i64 p.2) ∈ left) ∧ Aside0 (Below w.heap.size w wx))
    case atStart => exact ⟨evI (cntKV l0 []), ⟨by simp [evI]⟩, ⟨by have := HM2.out; rw [HL.out] at this; exact this⟩, ⟨fun p hp => .inr (List.mem_map.2 ⟨p, hp, rfl⟩)⟩, HB2⟩
    case round =>
     obtain ⟨left, HN, HR, HF, HB⟩ := hrel
     clear HM2 HB2
     have hne : w.heap.size ≠ R := by have := HW.out; omega
     have HNE := Aside0.mk hne
     clear hne
     go_wp2_with (first
      | (at_next; refine wpList_next_kv rfl _ rfl 2 (Value.int .i64) intEnc_inj w.heap.size R _ _ HNE.out rfl HR.out ?_ ?_)
      | go_in)
     · intro hl
       have HE := Aside0.mk hl
       clear hl
       go_wp2
       go_ret
       refine ⟨?_, HB.out⟩
       have : twiceB l0 = true := by
        refine List.all_eq_true.2 fun x hx => ?_
        rcases HF.out _ (cntKV_mem l0 x hx) with h | h
        · simp at h ⊢; omega
        · rw [HE.out] at h; cases h
       rw [this]
       rfl
     · intro x v w1 hp hpk hr1 hg1 hs1 hen
       obtain ⟨⟨x', c⟩, hq, hqe⟩ := List.mem_map.1 hpk
       obtain ⟨rfl, rfl⟩ := Prod.mk.inj hqe
       have hv := cntKV_val l0 _ hq
       have HP := Aside0.mk hp
       have HR1 := Aside0.mk hr1
       have HB1 := Aside0.mk (HB.out.grown hg1 (by have := HR.out.owns.lt; omega) (fun j hj => by cases hj; have := HW.out; omega))
       have HV := Aside0.mk hv
       clear hp hr1 hg1 hs1 hv hq hpk
       by_cases h2 : c = 2
       · have hb2 : (c != 2) = false := by simp [h2]
         have H2 := Aside0.mk h2
         clear h2
         go_wp2
         go_roundg (left.filter fun q => !decide (q.1 = x')).length
         case measure => exact Nat.lt_of_lt_of_le (len_filter_lt (p := (x', Value.int .i64 c)) HP.out) (Nat.le_of_eq HN.out)
         case rel => exact ⟨_, ⟨rfl⟩, HR1, ⟨fun p hp => by
          rcases HF.out p hp with h | h
          · exact .inl h
          · by_cases hx : p.1 = x'
            · have h1 := cntKV_val l0 p hp
              rw [hx, ← HV.out.1, H2.out] at h1
              exact .inl h1.1
            · exact .inr (List.mem_filter.2 ⟨h, by simpa using hx⟩)⟩, HB1⟩
       · have hb2 : (c != 2) = true := by simp [h2]
         have H2 := Aside0.mk h2
         clear h2
         go_wp2
         go_ret
         refine ⟨?_, HB1.out⟩
         have : twiceB l0 = false := by
          refine List.all_eq_false.2 ⟨x', HV.out.2, ?_⟩
          have h1 := HV.out.1
          have h2 := H2.out
          simp only [decide_eq_true_eq]
          intro h
          rw [h] at h1
          exact h2 h1
         rw [this]
         rfl
def impl_twice.f (l0 : List Int) : Option Bool := some (twiceB l0)
theorem impl_twice.calls (A0 : Option Addr) (c0 : Nat) (l0 : List Int) (r : Bool) (w : World) (hr0 : Kd.C (Kd.int .i64) w A0 l0.length l0) (hc0 : l0.length ≤ c0) (h : impl_twice.f l0 = some r) :
 Calls Try.prog 65 #[.slice A0 l0.length c0] w fun e w' => e = .returned (.bool r) ∧ Below w.heap.size w w' := by
 obtain rfl := Option.some.inj h
 exact twice_any A0 c0 l0 w hr0 hc0
end Go.Proofs.Ytibahnmljafkdaa.P
