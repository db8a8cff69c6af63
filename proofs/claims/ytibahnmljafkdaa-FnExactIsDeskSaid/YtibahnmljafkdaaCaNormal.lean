/- 'normal' gives each number of a list the place of its first appearance among the numbers. -/
import Derived.Test.YtibahnmljafkdaaCaBase
namespace Go.Proofs.Ytibahnmljafkdaa.P
open Go.RowKit Go.Maps Go.Proofs.YtibahnmljafkdaaW.PrintWords Go.Proofs.YtibahnmljafkdaaW.PrintLast Go.Proofs.YtibahnmljafkdaaW.PrintMore
set_option linter.unusedVariables false
set_option linter.unusedSimpArgs false
def mets : List Int → List Int → List Int
 | met, [] => met
 | met, x :: l => mets (if x ∈ met then met else met ++ [x]) l
def nrmFrom : List Int → List Int → List Int
 | _, [] => []
 | met, x :: l => (met.idxOf x : Int) :: nrmFrom (if x ∈ met then met else met ++ [x]) l
def nrm (l : List Int) : List Int := nrmFrom [] l
theorem nrmFrom_length : ∀ (l met : List Int), (nrmFrom met l).length = l.length
 | [], _ => rfl
 | x :: l, met => by simp [nrmFrom, nrmFrom_length l]
theorem nrm_length (l : List Int) : (nrm l).length = l.length := nrmFrom_length l []
theorem mets_snoc : ∀ (l : List Int) (x : Int) (met : List Int), mets met (l ++ [x]) = if x ∈ mets met l then mets met l else mets met l ++ [x]
 | [], x, met => rfl
 | y :: l, x, met => mets_snoc l x _
theorem nrmFrom_snoc : ∀ (l : List Int) (x : Int) (met : List Int), nrmFrom met (l ++ [x]) = nrmFrom met l ++ [((mets met l).idxOf x : Int)]
 | [], x, met => rfl
 | y :: l, x, met => by simp [nrmFrom, mets, nrmFrom_snoc l x _]
def namesKV (met : List Int) : List (Int × Int) := met.zipIdx.map fun p => (p.1, (p.2 : Int))
theorem namesKV_snoc (met : List Int) (x : Int) : namesKV (met ++ [x]) = namesKV met ++ [(x, (met.length : Int))] := by simp [namesKV, List.zipIdx_append]
theorem namesKV_length (met : List Int) : (namesKV met).length = met.length := by simp [namesKV]
theorem namesKV_get (met : List Int) (x : Int) : kvGet (namesKV met) x = if x ∈ met then some (met.idxOf x : Int) else none := by
 suffices h : ∀ (met : List Int) (n : Nat), kvGet ((met.zipIdx n).map fun p => (p.1, (p.2 : Int))) x = if x ∈ met then some ((met.idxOf x + n : Nat) : Int) else none by simpa [namesKV] using h met 0
 intro met
 induction met with
 | nil => intro n; rfl
 | cons y met ih =>
  intro n
  simp only [List.zipIdx_cons, List.map_cons, kvGet_cons]
  by_cases h : y = x
  · subst h; simp [List.idxOf_cons]
  · rw [if_neg h, ih]
    have hb : (y == x) = false := by simpa using h
    by_cases hx : x ∈ met
    · simp [hx, List.idxOf_cons, hb]; omega
    · simp [hx, Ne.symm h]
theorem namesKV_put (met : List Int) (x : Int) (h : x ∉ met) : kvPut (namesKV met) x (met.length : Int) = namesKV (met ++ [x]) := by
 rw [kvPut_none _ (by rw [namesKV_get, if_neg h]), namesKV_snoc]
theorem mets_len : ∀ (l met : List Int), (mets met l).length ≤ met.length + l.length
 | [], met => Nat.le_refl _
 | x :: l, met => by
  have := mets_len l (if x ∈ met then met else met ++ [x])
  simp only [mets, List.length_cons]
  split at this <;> simp_all <;> omega
set_option maxRecDepth 100000 in
set_option maxHeartbeats 1000000 in
theorem normal_any (A0 : Option Addr) (c0 : Nat) (l0 : List Int) (w : World) (hr0 : Kd.C (Kd.int .i64) w A0 l0.length l0) (hc0 : l0.length ≤ c0) (hs0 : l0.length ≤ 1000000) :
 Calls Try.prog 67 #[.slice A0 l0.length c0] w fun e w' => ∃ v0_ : Value, e = .returned (v0_) ∧ Kd.R (Kd.int .i64) 2 w' w.heap.size (fun _ => True) v0_ (nrm l0) ∧ Below w.heap.size w w' := by
 have HR0 := Aside0.mk hr0
 have HC0 := Aside0.mk hc0
 clear hr0 hc0
 have hmm := @run_makeMap Try.prog
 go_enter Try.func67, Try.ntmps67
 go_wp2_with (first
  | ((with_reducible refine gate_dst (N := 10) rfl ?_); refine litI (w := w) 10 rfl rfl [] (fun _ => True) ?hr trivial ((Below.refl _ _).alloc (Nat.le_refl _) _) (by simp) ?_; (case hr => first | (go_simp; done) | (go_simp; rfl)); intro v1 w1 ho hb hg hnew)
  | go_in)
 have HM := Aside0.mk ((mapKV_made w (Value.int .i64)).kept hg (by simp))
 have HO := Aside0.mk ho
 have HB := Aside0.mk hb
 clear ho hb hg hnew
 go_loopw [13, 4] (fun i v wr => ∃ k : Nat, k ≤ l0.length ∧ i = .int .i64 k ∧ Aside0 (mapKV wr (Value.int .i64) w.heap.size (evI (namesKV (mets [] (l0.take k))))) ∧ Aside0 (Kd.R (Kd.int .i64) 2 wr w.heap.size (fun _ => True) v (nrm (l0.take k))) ∧ Aside0 (Below w.heap.size w wr))
  (fun i _ _ => l0.length - (intOf i).toNat)
 case atStart => exact ⟨0, Nat.zero_le _, rfl, HM, HO, HB⟩
 case round =>
  obtain ⟨k, hk, rfl, HM, HO, HB⟩ := hrel
  by_cases hlt : k < l0.length
  · obtain ⟨ad, e0, hx⟩ := Kd.at_int (Kd.C_below HR0.out HB.out) (k : Int) (by omega) (by omega)
    cases e0
    have hs := take_succ_rd l0 k hlt
    rw [Int.toNat_natCast] at hx
    generalize rd l0 (k : Int) = x at *
    have hml := mets_len (l0.take k) []
    have hnl := nrm_length (l0.take k)
    have hm1 := mets_snoc (l0.take k) x []
    have hn1 := nrmFrom_snoc (l0.take k) x []
    rw [← hs] at hm1 hn1
    have hn1' : nrm (l0.take (k + 1)) = nrm (l0.take k) ++ [((mets [] (l0.take k)).idxOf x : Int)] := hn1
    clear hs hn1
    generalize hmet : mets [] (l0.take k) = met at *
    generalize hnrm : nrm (l0.take k) = out at *
    have hml' : met.length ≤ 1000000 := by simp at hml; omega
    have hol : out.length ≤ 1000000 := by rw [hnl]; simp; omega
    have HN1 := Aside0.mk hn1'
    have HM1 := Aside0.mk hm1
    clear hn1' hm1 hmet hnrm hml hnl
    by_cases hmem : x ∈ met
    · have hg : (kvGet (evI (namesKV met)) x).getD (.int .i64 0) = .int .i64 (met.idxOf x : Int) := by rw [evI_get, namesKV_get, if_pos hmem]; rfl
      have hok : (kvGet (evI (namesKV met)) x).isSome = true := by rw [evI_get, namesKV_get, if_pos hmem]; rfl
      have HG := Aside0.mk hg
      have HK := Aside0.mk hok
      have HX := Aside0.mk hmem
      clear hg hok hmem
      go_wp2_with (first
       | (at_lookup; refine wpList_lookup_kv_ok rfl _ _ 99 rfl 2 2 (Value.int .i64) keyI64 Try.underlying99 (.int .i64 0) (zeroI64 _) w.heap.size _ rfl HM.out x rfl (.int .i64 (met.idxOf x : Int)) true HG.out HK.out ?_)
       | (at_builtin; go_must (refine appI rfl (.tmp 30) (.tmp 32) rfl u4 out (met.idxOf x : Int) (fun _ => True) rfl rfl HO.out (fun _ _ => trivial) HB.out (by omega) ?_); intro v2 w1 ho hb hg hat)
       | go_in)
      go_roundw
      case rel => exact ⟨k + 1, by omega, by go_num, ⟨by rw [HM1.out, if_pos HX.out]; exact map_of_row HM.out HO.out hg⟩, ⟨by rw [HN1.out]; exact ho⟩, ⟨hb⟩⟩
      case measure => simp [intOf]; omega
    · have hg : (kvGet (evI (namesKV met)) x).getD (.int .i64 0) = .int .i64 0 := by rw [evI_get, namesKV_get, if_neg hmem]; rfl
      have hok : (kvGet (evI (namesKV met)) x).isSome = false := by rw [evI_get, namesKV_get, if_neg hmem]; rfl
      have hln : (evI (namesKV met)).length = met.length := by simp [evI, namesKV_length]
      have HI := Aside0.mk (show met.idxOf x = met.length from List.idxOf_eq_length hmem)
      have HG := Aside0.mk hg
      have HK := Aside0.mk hok
      have HX := Aside0.mk hmem
      have HL := Aside0.mk hln
      clear hg hok hmem hln
      go_wp2_with (first
       | (at_lookup; refine wpList_lookup_kv_ok rfl _ _ 99 rfl 2 2 (Value.int .i64) keyI64 Try.underlying99 (.int .i64 0) (zeroI64 _) w.heap.size _ rfl HM.out x rfl (.int .i64 0) false HG.out HK.out ?_)
       | (at_len; refine wpList_len_kv rfl _ 99 rfl 2 2 Try.underlying99 (Value.int .i64) w.heap.size _ rfl HM.out ?_; rw [HL.out])
       | (at_mapUpdate; refine wpList_mapUpdate_kv rfl _ _ _ 99 rfl 2 2 (Value.int .i64) keyI64 Try.underlying99 w.heap.size _ rfl HM.out x rfl (.int .i64 met.length) ?hv ?_; (case hv => rfl); intro w1 hm1 hg1 hs1; have HO1 := Aside0.mk (row_of_map HO.out HM.out hg1); have HB1 := Aside0.mk (HB.out.grown hg1 HB.out.size (fun j hj => by cases hj; exact Nat.le_refl _)); have HM1' := Aside0.mk hm1; clear hm1 hg1 hs1)
       | (at_builtin; go_must (refine appI rfl (.tmp 30) (.tmp 32) rfl u4 out (met.length : Int) (fun _ => True) rfl rfl HO1.out (fun _ _ => trivial) HB1.out (by omega) ?_); intro v2 w2 ho hb hg hat)
       | go_in)
      go_roundw
      case rel => exact ⟨k + 1, by omega, by go_num, ⟨by rw [HM1.out, if_neg HX.out, ← namesKV_put met x HX.out, ← evI_put]; exact map_of_row HM1'.out HO1.out hg⟩, ⟨by rw [HN1.out, HI.out]; exact ho⟩, ⟨hb⟩⟩
      case measure => simp [intOf]; omega
  · obtain rfl : k = l0.length := by omega
    go_wp2
    go_ret
    rw [List.take_length] at HO
    exact ⟨_, rfl, HO.out, HB.out⟩
def impl_normal.f (l0 : List Int) : Option (List Int) := if l0.length ≤ 1000000 then some (nrm l0) else none
theorem impl_normal.calls (A0 : Option Addr) (c0 : Nat) (l0 : List Int) (r : List Int) (w : World) (hr0 : Kd.C (Kd.int .i64) w A0 l0.length l0) (hc0 : l0.length ≤ c0) (h : impl_normal.f l0 = some r) :
 Calls Try.prog 67 #[.slice A0 l0.length c0] w fun e w' => ∃ v0_ : Value, e = .returned (v0_) ∧ Kd.R (Kd.int .i64) 2 w' w.heap.size (fun _ => True) v0_ r ∧ Below w.heap.size w w' := by
 unfold impl_normal.f at h
 by_cases hl : l0.length ≤ 1000000
 · rw [if_pos hl] at h
   obtain rfl := Option.some.inj h
   exact normal_any A0 c0 l0 w hr0 hc0 hl
 · rw [if_neg hl] at h
   cases h
end Go.Proofs.Ytibahnmljafkdaa.P
