/- 'parts' counts the parts of a web: the labels are sorted, like ones are left out, and those that stay are counted. -/
import Derived.Test.YtibahnmljafkdaaCbPartsOf
import Derived.Test.YtibahnmljafkdaaCbLays
import Derived.Sort.OwnSorted
namespace Go.Proofs.Ytibahnmljafkdaa.P
open Go.RowKit Go.Maps Go.Proofs.YtibahnmljafkdaaW.PrintWords Go.Proofs.YtibahnmljafkdaaW.PrintLast Go.Proofs.YtibahnmljafkdaaW.PrintMore
set_option linter.unusedVariables false
set_option linter.unusedSimpArgs false
theorem below_sorted {α : Type} [Inhabited α] {enc : α → Value} (B : Nat) (w : World) (hB : B ≤ w.heap.size) (n g off : Nat) (hg : B ≤ g) (d : Array α) (os : Array Obj) : Below B w (Go.Sort.grow (Go.Sort.putRow enc (Go.Sort.ahead w n) g off d) os) := by
 refine ⟨rfl, rfl, rfl, ?_, fun j hj => ?_⟩
 · show w.heap.size ≤ ((w.heap.modify g _) ++ os).size
   simp
 · show ((w.heap.modify g _) ++ os)[j]? = w.heap[j]?
   rw [Array.getElem?_append_left (by simp; omega), Array.getElem?_modify, if_neg (by omega)]
theorem below_put {α : Type} [Inhabited α] {enc : α → Value} (B : Nat) (w : World) (n g off : Nat) (hg : B ≤ g) (d : Array α) : Below B w (Go.Sort.putRow enc (Go.Sort.ahead w n) g off d) := by
 refine ⟨rfl, rfl, rfl, ?_, fun j hj => ?_⟩
 · show w.heap.size ≤ (w.heap.modify g _).size
   simp
 · show (w.heap.modify g _)[j]? = w.heap[j]?
   rw [Array.getElem?_modify, if_neg (by omega)]
theorem holds_sorted {enc : Int → Value} {w : World} {g off n : Nat} {d0 d : Array Int} {os : Array Obj} (h : Go.Sort.Holds enc w g off d0) (hs : d.size = d0.size) (hg : g < w.heap.size) : Go.Sort.Holds enc (Go.Sort.grow (Go.Sort.putRow enc (Go.Sort.ahead w n) g off d) os) g off d := by
 have h1 := Go.Sort.holds_putRow enc (Go.Sort.ahead w n) g off d0 d (Go.Sort.holds_ahead enc w n g off d0 h) hs
 intro j hj
 have hlt : g < (Go.Sort.putRow enc (Go.Sort.ahead w n) g off d).heap.size := by
  show g < (w.heap.modify g _).size
  simpa using hg
 refine ⟨?_, ?_⟩
 · rw [Go.Sort.cell?_grow _ _ _ hlt]; exact (h1 j hj).1
 · rw [Go.Sort.frozen?_grow _ _ _ hlt]; exact (h1 j hj).2
def sorted (l : List Int) : List Int := l.mergeSort fun x y => decide (x ≤ y)
def kinds (l : List Int) : Nat := (Go.Lib.compact (sorted l)).length
theorem kinds_nil : kinds [] = 0 := by simp [kinds, sorted, Go.Lib.compact, Go.Lib.compactUpTo]
set_option maxRecDepth 100000 in
set_option maxHeartbeats 2000000 in
theorem parts_any (g : Nat) (A0 : Option Addr) (c0 : Nat) (legs : List Int) (A1 : Option Addr) (c1 : Nat) (forks : List (List Int)) (w : World) (hw : w.heap[g]? = some (.cells #[.slice A0 legs.length c0, .slice A1 forks.length c1] 36 (0, 0)))
 (hr0 : Kd.C (Kd.int .i64) w A0 legs.length legs) (hc0 : legs.length ≤ c0) (hr1 : Kd.C (Kd.slice 2 (Kd.int .i64)) w A1 forks.length forks) (hc1 : forks.length ≤ c1) (hl0 : legs.length ≤ 1000) (hl1 : forks.length ≤ 1000) (hl2 : ∀ f ∈ forks, f.length ≤ 1000)
 (hv : ∀ p ∈ webM legs forks, p.2.length = 2) :
 Calls Try.prog 52 #[.pointer (some ⟨g, 0, none⟩)] w fun e w' => e = .returned (.int .i64 (kinds (partsC (legs.length + forks.length) (edgesM (webM legs forks))) : Int)) ∧ Below w.heap.size w w' := by
 have hP := partsOf_any g A0 c0 legs A1 c1 forks w hw hr0 hc0 hr1 hc1 hl0 hl1 hl2 hv
 have hlen := (partsC_is (edgesM_ok legs forks hv)).len
 have hN : (partsC (legs.length + forks.length) (edgesM (webM legs forks))).length ≤ 2000 := by omega
 generalize partsC (legs.length + forks.length) (edgesM (webM legs forks)) = L at *
 have HP := Aside0.mk hP
 have HL := Aside0.mk hlen
 clear hP hr0 hr1 hc0 hc1 hw hl0 hl1 hl2 hv hlen
 go_enter Try.func52, Try.ntmps52
 go_wp2_with (go_at_call 74; refine HP.out.mono ?_; rintro e w1 ⟨v, rfl, ho, hb⟩; obtain ⟨A3, c3, rfl, ho⟩ := R_open ho (n := L.length) rfl; have HO := Aside0.mk ho; have HB := Aside0.mk hb; clear ho hb)
 have hls : (sorted L).length = L.length := List.length_mergeSort _
 have HLS := Aside0.mk hls
 clear hls
 by_cases h0 : 0 < L.length
 · obtain ⟨g3, e3, hg3, hg3'⟩ := R_block HO.out h0
   subst e3
   have hH : Go.Sort.Holds (Value.int .i64) w1 g3 0 L.toArray := fun j hj => by
    have hj' : j < L.length := by simpa using hj
    have := Kd.R_cell (d := 0) (enc := Value.int .i64) (h1 := fun _ => rfl) HO.out (j : Int) (by omega) (by omega)
    rw [Int.toNat_natCast] at this
    rw [Nat.zero_add]
    have e1 : L.toArray[j]! = rdOf 0 L (j : Int) := by simp [rdOf, hj', List.getD_eq_getElem?_getD]
    rw [e1]; exact this
   have hcap : L.length ≤ c3 := by
    obtain ⟨A, c, e, h, _⟩ := Kd.R_reads HO.out
    cases e; exact h
   have hS := Any.slices_Sort_int laysSort g3 0 c3 L w1 hH hg3' (by omega)
   change Calls Try.prog 82 _ _ _ at hS
   have hC := fun (W : World) (hW : Go.Sort.Holds (Value.int .i64) W g3 0 (sorted L).toArray) (hb : Below w.heap.size w W) => show Calls Try.prog 83 #[.slice (some ⟨g3, 0, none⟩) L.length c3] W (fun e w' => e = .returned (.slice (some ⟨g3, 0, none⟩) (kinds L) c3) ∧ Below w.heap.size w w') from by
    have h1 := Any.slices_Compact_int laysCompact g3 0 c3 (sorted L) W hW (by rw [HLS.out]; omega) (by rw [HLS.out]; exact hcap)
    change Calls Try.prog 83 _ _ _ at h1
    rw [HLS.out] at h1
    refine h1.mono ?_
    rintro e w' ⟨he, q, rfl⟩
    exact ⟨he, hb.trans (below_put w.heap.size W q g3 0 hg3 _)⟩
   have HS := Aside0.mk hS
   have HC := Aside0.mk hC
   have HH := Aside0.mk hH
   have HK := Aside0.mk (show (Go.Lib.compact (sorted L)).length = kinds L from rfl)
   have HB2 := Aside0.mk (fun (n : Nat) (os : Array Obj) => HB.out.trans (below_sorted (enc := Value.int .i64) w.heap.size w1 HB.out.size n g3 0 hg3 (sorted L).toArray os))
   have HH2 := Aside0.mk (fun (n : Nat) (os : Array Obj) => holds_sorted (n := n) (os := os) (d := (sorted L).toArray) hH (by simp [HLS.out]) hg3')
   clear hS hC hH
   clear HH
   go_wp2_with (first
    | (go_at_call 82; refine HS.out.mono ?_; rintro e w2 ⟨rfl, n2, os2, e2⟩; have HB3 := Aside0.mk (show Below w.heap.size w w2 from by rw [e2]; exact HB2.out n2 os2); have HH3 := Aside0.mk (show Go.Sort.Holds (Value.int .i64) w2 g3 0 (sorted L).toArray from by rw [e2]; exact HH2.out n2 os2); clear e2)
    | (go_at_call 83; refine (HC.out _ HH3.out HB3.out).mono ?_; rintro e w3 ⟨rfl, hb4⟩; have HB4 := Aside0.mk hb4; clear hb4))
   go_ret
   exact ⟨by first | rfl | simp, HB4.out⟩
 · have hnil : L = [] := List.eq_nil_of_length_eq_zero (by omega)
   have hS := show Calls Try.prog 82 #[.slice A3 0 c3] w1 (fun e w' => e = .returned (.tuple #[]) ∧ w' = w1) from Any.slices_Sort_int_none laysSort A3 c3 w1
   have hC := show Calls Try.prog 83 #[.slice A3 0 c3] w1 (fun e w' => e = .returned (.slice A3 0 c3) ∧ w' = w1) from Any.slices_Compact_int_empty laysCompact A3 c3 w1
   subst hnil
   clear HO HLS
   go_wp2_with (first
    | (go_at_call 82; refine hS.mono ?_; rintro e w2 ⟨rfl, rfl⟩)
    | (go_at_call 83; refine hC.mono ?_; rintro e w3 ⟨rfl, rfl⟩))
   go_ret
   exact ⟨by rw [kinds_nil]; rfl, HB.out⟩
end Go.Proofs.Ytibahnmljafkdaa.P
